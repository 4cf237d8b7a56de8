/-
  Several texts in one: Ends, IntSS, Net, Plain, EndEq. No condition on any program.
-/
import Derived.Test.YtcmmklcampmkjaaRows
import Derived.Test.YtcmmklcampmkjaaBcB
import Derived.Test.YtcmmklcampmkjaaBcA
import Derived.Deep.RegionWith
import Derived.WalkKit
import Derived.Laws.StructEq
import Derived.Outline

/- Contracts of the laws' helpers on slices of pairs. -/
namespace Go.Proofs.Ytcmmklcampmkjaa
open Go.ChangeShapes Go.WideShapes Go.ChangeAt Go.RowKit
set_option linter.unusedVariables false

theorem below_a1 (w : World) (o : Obj) : Below w.heap.size w (w.alloc o) := (Below.refl _ _).alloc (Nat.le_refl _) _
theorem below_a2 (w : World) (o o2 : Obj) : Below w.heap.size w ((w.alloc o).alloc o2) := (below_a1 w o).alloc (by simp) _
theorem below_a3 (w : World) (o o2 o3 : Obj) : Below w.heap.size w (((w.alloc o).alloc o2).alloc o3) := (below_a2 w o o2).alloc (by simp; omega) _
/-- how many elements the first k lists have -/
def sumL {α : Type} (xss : List (List α)) (k : Nat) : Nat := ((xss.take k).map List.length).sum
theorem sumL_zero {α : Type} (xss : List (List α)) : sumL xss 0 = 0 := by simp [sumL]
theorem sumL_succ {α : Type} (xss : List (List α)) (k : Nat) (h : k < xss.length) : sumL xss (k + 1) = sumL xss k + (nthL xss k).length := by
  unfold sumL
  rw [List.take_succ_eq_append_getElem h, List.map_append, List.sum_append, nthL_eq h]
  simp
theorem sumL_mono {α : Type} (xss : List (List α)) (k : Nat) (h : k ≤ xss.length) : sumL xss k ≤ sumL xss xss.length := by
  have : ∀ d, k + d ≤ xss.length → sumL xss k ≤ sumL xss (k + d) := by
    intro d
    induction d with
    | zero => intro _; exact Nat.le_refl _
    | succ d ih => intro hd; have := ih (by omega); have := sumL_succ xss (k + d) (by omega); rw [← Nat.add_assoc]; omega
  have := this (xss.length - k) (by omega)
  rwa [show k + (xss.length - k) = xss.length by omega] at this
def cntSS {α : Type} (xss : List (List α)) : Nat := sumL xss xss.length
def szSS {α : Type} (xss : List (List α)) : Nat := xss.length + cntSS xss
theorem len_le_cnt {α : Type} (xss : List (List α)) (k : Nat) (h : k < xss.length) : (nthL xss k).length ≤ cntSS xss := by
  have h1 := sumL_succ xss k h
  have h2 := sumL_mono xss (k + 1) (by omega)
  unfold cntSS; omega

/-- what is left of an allowance -/
def szr (left : Int) (n : Nat) : Int := if (n : Int) ≤ left then left - n else -1

set_option maxHeartbeats 400000 in
theorem szIntS_any (v : Value) (zs : List Int) (left : Int) (lo hi : Nat) (w : World) (h : IntS w lo hi v zs) (h0 : 0 ≤ left) (h1 : left ≤ 1048576) :
    Calls Try.prog 22 #[v, .int .i64 left] w fun e w' => e = .returned (.int .i64 (szr left zs.length)) ∧ w = w' := by
  obtain ⟨A, c, rfl, hc1, hc2, hcell⟩ := h.form
  unfold maxLen at hc2
  by_cases hl : (zs.length : Int) ≤ left
  · have : ¬ left - zs.length < 0 := by omega
    go_enter Try.func22, Try.ntmps22
    go_wp2
    go_ret
    exact ⟨ret_int (by unfold szr; rw [if_pos hl]), rfl⟩
  · have : left - zs.length < 0 := by omega
    go_enter Try.func22, Try.ntmps22
    go_wp2
    go_ret
    exact ⟨ret_int (by unfold szr; rw [if_neg (by omega)]), rfl⟩

set_option maxHeartbeats 400000 in
theorem szEndS_any (v : Value) (zs : List (Int × Int)) (left : Int) (lo hi : Nat) (w : World) (h : EndS w lo hi v zs) (h0 : 0 ≤ left) (h1 : left ≤ 1048576) :
    Calls Try.prog 47 #[v, .int .i64 left] w fun e w' => e = .returned (.int .i64 (szr left zs.length)) ∧ w = w' := by
  obtain ⟨A, c, rfl, hc1, hc2, hcell⟩ := h.form
  unfold maxLen at hc2
  by_cases hl : (zs.length : Int) ≤ left
  · have : ¬ left - zs.length < 0 := by omega
    go_enter Try.func47, Try.ntmps47
    go_wp2
    go_ret
    exact ⟨ret_int (by unfold szr; rw [if_pos hl]), rfl⟩
  · have : left - zs.length < 0 := by omega
    go_enter Try.func47, Try.ntmps47
    go_wp2
    go_ret
    exact ⟨ret_int (by unfold szr; rw [if_neg (by omega)]), rfl⟩

theorem toEnd_any (a b : Int) (w : World) :
    Calls Try.prog 75 #[.agg #[.int .i64 a, .int .i64 b]] w fun e w' => e = .returned (.agg #[.int .i64 a, .int .i64 b]) ∧ Below w.heap.size w w' := by
  go_enter Try.func75, Try.ntmps75
  go_wp2
  exact bodyPost_ret (v := .agg #[.int .i64 a, .int .i64 b]) (by simp [results, Try.results75, go_sem]) rfl ⟨rfl, below_a3 _ _ _ _⟩

theorem eqEnd_any (a b c d : Int) (w : World) :
    Calls Try.prog 85 #[.agg #[.int .i64 a, .int .i64 b], .agg #[.int .i64 c, .int .i64 d]] w fun e w' => e = .returned (.bool (decide ((a, b) = (c, d)))) ∧ Below w.heap.size w w' := by
  by_cases h1 : a = c
  · have h1' : (a != c) = false := by simp [h1]
    have H1 := Lib.hid h1
    clear h1
    by_cases h2 : b = d
    · have h2' : (b != d) = false := by simp [h2]
      have H2 := Lib.hid h2
      clear h2
      go_enter Try.func85, Try.ntmps85
      go_wp2
      go_ret
      exact ⟨ret_bool (by simp [H1.out, H2.out]), ((Below.refl _ _).alloc (Nat.le_refl _) _).alloc (by simp) _⟩
    · have h2' : (b != d) = true := by simp [h2]
      go_enter Try.func85, Try.ntmps85
      go_wp2
      go_ret
      exact ⟨ret_bool (by simp [h2]), ((Below.refl _ _).alloc (Nat.le_refl _) _).alloc (by simp) _⟩
  · have h1' : (a != c) = true := by simp [h1]
    go_enter Try.func85, Try.ntmps85
    go_wp2
    go_ret
    exact ⟨ret_bool (by simp [h1]), ((Below.refl _ _).alloc (Nat.le_refl _) _).alloc (by simp) _⟩

theorem Try.info60 : (Try.prog.info? 60).map (fun i => (i.zero, i.size, i.bytes)) = some (some (.agg #[.int .i64 0, .int .i64 0]), 2, 16) := by kernel_rfl

set_option maxHeartbeats 1000000 in
theorem toEndS_any (v : Value) (zs : List (Int × Int)) (lo hi : Nat) (w : World) (h : EndS w lo hi v zs) (hhi : hi ≤ w.heap.size) (hn : zs.length ≤ 16777216) :
    Calls Try.prog 56 #[v] w fun e w' => ∃ r, e = .returned r ∧ EndS w' w.heap.size w'.heap.size r zs ∧ Below w.heap.size w w' := by
  obtain ⟨A, c, rfl, hc1, hc2, hcell⟩ := h.form
  have hmk := fun W => make_pairs (P := Try.prog) 61 60 Try.underlying61 Try.info60 zs.length (by omega) W
  go_enter Try.func56, Try.ntmps56
  go_wp2
  go_loopw [4] (fun i wr => ∃ k : Nat, k ≤ zs.length ∧ i = .int .i64 k ∧ wr.rowIs w.heap.size 60 (zs.length * 2) (fun j => if j < k * 2 then endCell zs j else .int .i64 0) ∧ Below w.heap.size w wr) (fun i _ => zs.length - (intOf i).toNat)
  case atStart => exact ⟨0, Nat.zero_le _, rfl, (rowIs_pairs w zs.length 60).congr (fun i _ => by simp), (Below.refl _ _).alloc (Nat.le_refl _) _⟩
  case round =>
    obtain ⟨k, hk, rfl, hrow, hb⟩ := hrel
    clear hmk
    by_cases hlt : k < zs.length
    · obtain ⟨b, off, rfl, hb1, hb2, hcs⟩ := hcell (by omega)
      obtain ⟨h1, h2⟩ := hcs k hlt
      have hck := (hb.cell (p := ⟨b, off + k * 2, none⟩) (by show b < _; omega)).trans h1
      have hck' := (hb.cell (p := ⟨b, off + k * 2 + 1, none⟩) (by show b < _; omega)).trans h2
      clear hcs h1 h2 hcell
      go_wp2_with fail
      refine (toEnd_any _ _ _).mono ?_
      rintro e w1 ⟨rfl, hb1'⟩
      have hrow1 : w1.rowIs w.heap.size 60 (zs.length * 2) (fun j => if j < k * 2 then endCell zs j else .int .i64 0) := hrow.of_block (hb1'.block _ hrow.lt)
      have hbw1 := hb.trans (hb1'.mono hb.size)
      have oc := hrow1.cell (i := k * 2) (by omega)
      have oc' := hrow1.cell (i := k * 2 + 1) (by omega)
      have of := hrow1.frozen (k * 2)
      have of' := hrow1.frozen (k * 2 + 1)
      clear hck hck'
      go_wp2_with fail
      go_roundw
      case rel =>
        refine ⟨k + 1, by omega, by go_num, ?_, (hbw1.setCell (by simp) _).setCell (by simp) _⟩
        refine ((hrow1.set (k * 2) (.int .i64 (nthE zs k).1)).set (k * 2 + 1) (.int .i64 (nthE zs k).2)).congr fun j hj => ?_
        by_cases e : j = k * 2 + 1
        · subst e; rw [if_pos rfl, if_pos (by omega), endCell_snd]
        · rw [if_neg e]
          by_cases e2 : j = k * 2
          · subst e2; rw [if_pos rfl, if_pos (by omega), endCell_fst]
          · rw [if_neg e2]
            by_cases e3 : j < k * 2
            · rw [if_pos e3, if_pos (by omega)]
            · rw [if_neg e3, if_neg (by omega)]
      case measure => simp [intOf]; omega
    · obtain rfl : k = zs.length := by omega
      go_wp2
      go_ret
      refine ⟨_, rfl, ?_, hb⟩
      exact (Sl.of_row hrow (Nat.le_refl _) (Nat.le_refl _) (Nat.le_refl _) (by unfold maxLen; omega)).congr fun j hj => by rw [if_pos hj]

theorem eqEnd_same (a b : Int) (w : World) :
    Calls Try.prog 85 #[.agg #[.int .i64 a, .int .i64 b], .agg #[.int .i64 a, .int .i64 b]] w fun e w' => e = .returned (.bool true) ∧ Below w.heap.size w w' :=
  (eqEnd_any a b a b w).mono fun e w' ⟨h1, h2⟩ => ⟨by rw [h1]; simp, h2⟩

set_option maxHeartbeats 1000000 in
theorem eqEndS_same (v1 v2 : Value) (zs : List (Int × Int)) (lo1 hi1 lo2 hi2 : Nat) (w : World) (h1 : EndS w lo1 hi1 v1 zs) (h2 : EndS w lo2 hi2 v2 zs) (hh1 : hi1 ≤ w.heap.size) (hh2 : hi2 ≤ w.heap.size) :
    Calls Try.prog 61 #[v1, v2] w fun e w' => e = .returned (.bool true) ∧ Below w.heap.size w w' := by
  obtain ⟨A, c, rfl, hc1, hc2, hcell⟩ := h1.form
  obtain ⟨A2, c2, rfl, hd1, hd2, hcell2⟩ := h2.form
  unfold maxLen at hc2 hd2
  go_enter Try.func61, Try.ntmps61
  go_wp2
  go_loopw [5] (fun i wr => ∃ k : Nat, k ≤ zs.length ∧ i = .int .i64 k ∧ Below w.heap.size w wr) (fun i _ => zs.length - (intOf i).toNat)
  case atStart => exact ⟨0, Nat.zero_le _, rfl, Below.refl _ _⟩
  case round =>
    obtain ⟨k, hk, rfl, hb⟩ := hrel
    by_cases hlt : k < zs.length
    · obtain ⟨b, off, rfl, hb1, hb2, hcs⟩ := hcell (by omega)
      obtain ⟨b', off', rfl, hb1', hb2', hcs'⟩ := hcell2 (by omega)
      obtain ⟨x1, x2⟩ := hcs k hlt
      obtain ⟨y1, y2⟩ := hcs' k hlt
      have p1 := (hb.cell (p := ⟨b, off + k * 2, none⟩) (by show b < _; omega)).trans x1
      have p2 := (hb.cell (p := ⟨b, off + k * 2 + 1, none⟩) (by show b < _; omega)).trans x2
      have p3 := (hb.cell (p := ⟨b', off' + k * 2, none⟩) (by show b' < _; omega)).trans y1
      have p4 := (hb.cell (p := ⟨b', off' + k * 2 + 1, none⟩) (by show b' < _; omega)).trans y2
      clear hcs hcs' hcell hcell2 x1 x2 y1 y2
      go_wp2
      go_region_with (go_at_call 85; refine (eqEnd_same _ _ _).mono ?_; rintro e w1 ⟨rfl, hbq⟩)
      all_goals (try go_wp2)
      all_goals go_roundw
      case rel => exact ⟨k + 1, by omega, by go_num, hb.drew.trans (hbq.mono hb.size)⟩
      case measure => simp [intOf]; omega
      case rel => exact ⟨k + 1, by omega, by go_num, hb.drew.trans (hbq.mono hb.size)⟩
      case measure => simp [intOf]; omega
    · obtain rfl : k = zs.length := by omega
      go_wp2
      go_ret
      exact ⟨rfl, hb⟩

/-- the pairs of numbers that mark leaves -/
def runE (k : Int) : Nat → List (Int × Int)
  | 0 => []
  | n + 1 => (k, k + 1) :: runE (k + 2) n
theorem runE_length (k : Int) (n : Nat) : (runE k n).length = n := by induction n generalizing k with | zero => rfl | succ n ih => simp [runE, ih]
theorem nthE_runE (k : Int) (n j : Nat) (h : j < n) : nthE (runE k n) j = (k + 2 * j, k + 2 * j + 1) := by
  induction n generalizing k j with
  | zero => omega
  | succ n ih =>
    cases j with
    | zero => simp [runE, nthE_cons_zero]
    | succ j => rw [runE, nthE_cons_succ, ih (k + 2) j (by omega)]; simp only [Prod.mk.injEq]; omega
theorem endCell_run (k : Int) (n j : Nat) (h : j < n * 2) : endCell (runE k n) j = .int .i64 (k + j) := by
  unfold endCell
  rw [nthE_runE _ _ _ (by omega)]
  split
  · congr 1; omega
  · congr 1; omega

set_option maxHeartbeats 1000000 in
theorem markEndS_any (v : Value) (zs : List (Int × Int)) (k : Int) (lo hi : Nat) (w : World) (h : EndS w lo hi v zs) (hhi : hi ≤ w.heap.size) (hk0 : 0 ≤ k) (hk1 : k ≤ 1152921504606846976) (hn : zs.length ≤ 576460752303423488) :
    Calls Try.prog 69 #[v, .int .i64 k] w fun e w' => e = .returned (.int .i64 (k + 2 * zs.length)) ∧ EndS w' lo hi v (runE k zs.length) ∧ w.grownBy w' (rowOf zs.length v) ∧ w'.heap.size = w.heap.size := by
  obtain ⟨A, c, rfl, hc1, hc2, hcell⟩ := h.form
  go_enter Try.func69, Try.ntmps69
  go_wp2
  go_loopw [5, 1] (fun i kv wr => ∃ m : Nat, m ≤ zs.length ∧ i = .int .i64 m ∧ kv = .int .i64 (k + 2 * m) ∧ Sl wr lo hi 2 (.slice A zs.length c) zs.length (fun j => if j < m * 2 then .int .i64 (k + j) else endCell zs j) ∧ w.grownBy wr (rowOf zs.length (.slice A zs.length c)) ∧ Hid (wr.heap.size = w.heap.size)) (fun i _ _ => zs.length - (intOf i).toNat)
  case atStart => exact ⟨0, Nat.zero_le _, rfl, by simp, Sl.congr h fun j _ => by simp, World.grownBy.refl _ _, Lib.hid rfl⟩
  case round =>
    obtain ⟨m, hm, rfl, rfl, hs, ht, HS⟩ := hrel
    by_cases hlt : m < zs.length
    · obtain ⟨b, off, rfl, hb1, hb2, hcs⟩ := hcell (by omega)
      obtain ⟨hck, hfk⟩ := hs.at_ (j := m * 2) (by omega)
      obtain ⟨hck', hfk'⟩ := hs.at_ (j := m * 2 + 1) (by omega)
      rw [← Nat.add_assoc] at hck' hfk'
      rw [rowOf_some (by omega)] at ht
      clear hcs hcell
      have hcx : (wr.setCell ⟨b, off + m * 2, none⟩ (.int .i64 (k + 2 * m))).cell? ⟨b, off + m * 2 + 1, none⟩ = some (if m * 2 + 1 < m * 2 then .int .i64 (k + ((m * 2 + 1 : Nat) : Int)) else endCell zs (m * 2 + 1)) := by
        rw [World.cell?_setCell_other _ _ _ _ (by intro e; injection e with _ e _; omega)]; exact hck'
      go_wp2
      go_roundw
      case rel =>
        refine ⟨m + 1, by omega, by go_num, by go_num, ?_, by rw [rowOf_some (by omega)]; exact grownBy_setCell (grownBy_setCell ht rfl _) rfl _, Lib.hid (by simpa [World.setCell] using HS.out)⟩
        have h2 := (hs.set (j := m * 2) (by omega) (.int .i64 (k + 2 * m))).set (j := m * 2 + 1) (by omega) (.int .i64 (k + 2 * m + 1))
        rw [← Nat.add_assoc] at h2
        refine h2.congr fun j hj => ?_
        by_cases e : j = m * 2 + 1
        · subst e; rw [if_pos rfl, if_pos (by omega)]; congr 1; omega
        · rw [if_neg e]
          by_cases e1 : j = m * 2
          · subst e1; rw [if_pos rfl, if_pos (by omega)]; congr 1; omega
          · rw [if_neg e1]
            by_cases e2 : j < m * 2
            · rw [if_pos e2, if_pos (by omega)]
            · rw [if_neg e2, if_neg (by omega)]
      case measure => simp [intOf]; omega
    · obtain rfl : m = zs.length := by omega
      go_wp2
      go_ret
      refine ⟨rfl, ?_, ht, HS.out⟩
      unfold EndS
      rw [runE_length]
      exact hs.congr fun j hj => by rw [if_pos hj, endCell_run _ _ _ hj]

theorem Try.info61 : (Try.prog.info? 61).map (fun i => (i.zero, i.size, i.bytes)) = some (some (.slice none 0 0), 1, 24) := by kernel_rfl

set_option maxHeartbeats 1000000 in
theorem szEndSS_any (v : Value) (xss : List (List (Int × Int))) (left : Int) (lo hi : Nat) (w : World) (h : EndSS w lo hi v xss) (h0 : 0 ≤ left) (h1 : left ≤ 1048576) :
    Calls Try.prog 21 #[v, .int .i64 left] w fun e w' => e = .returned (.int .i64 (szr left (szSS xss))) ∧ w = w' := by
  obtain ⟨A, c, rfl, hc1, hc2, hcell⟩ := h.form
  unfold maxLen at hc2
  have hz : szSS xss = xss.length + sumL xss xss.length := rfl
  have HZ := Lib.hid hz
  clear hz
  by_cases hl : (xss.length : Int) ≤ left
  · have : ¬ left - xss.length < 0 := by omega
    go_enter Try.func21, Try.ntmps21
    go_wp2
    go_loop [5, 1] (fun i l => ∃ m : Nat, m ≤ xss.length ∧ i = .int .i64 m ∧ l = .int .i64 (left - xss.length - sumL xss m) ∧ 0 ≤ left - xss.length - sumL xss m) (fun i _ => xss.length - (intOf i).toNat)
    case atStart => exact ⟨0, Nat.zero_le _, rfl, by rw [sumL_zero]; simp, by rw [sumL_zero]; omega⟩
    case round =>
      obtain ⟨m, hm, rfl, rfl, hge⟩ := hrel
      by_cases hlt : m < xss.length
      · obtain ⟨b, off, rfl, hb1, hb2, hcs⟩ := hcell (by omega)
        obtain ⟨u, hcu, hR⟩ := hcs m hlt
        have HS := Lib.hid (sumL_succ xss m hlt)
        have hmo := sumL_mono xss (m + 1) (by omega)
        have HR := Lib.hid hR
        obtain ⟨A2, c2, rfl, hd1, hd2, _⟩ := hR.form
        clear hcs hcell hR
        by_cases hf : ((nthL xss m).length : Int) ≤ left - xss.length - sumL xss m
        · have e1 : szr (left - xss.length - sumL xss m) (nthL xss m).length = left - xss.length - sumL xss m - (nthL xss m).length := by unfold szr; rw [if_pos hf]
          have hnn : ¬ left - xss.length - sumL xss m - (nthL xss m).length < 0 := by omega
          have E1 := Lib.hid e1
          clear e1
          go_wp2_with (go_at_call 47; refine (szEndS_any _ (nthL xss m) _ lo hi _ HR.out (by omega) (by omega)).mono ?_; rintro e w' ⟨rfl, rfl⟩; rw [E1.out])
          go_round
          case rel =>
            have := HS.out
            exact ⟨m + 1, by omega, by go_num, by rw [this]; congr 1; omega, by rw [this]; omega⟩
          case measure => simp [intOf]; omega
        · have e1 : szr (left - xss.length - sumL xss m) (nthL xss m).length = -1 := by unfold szr; rw [if_neg hf]
          have E1 := Lib.hid e1
          clear e1
          go_wp2_with (go_at_call 47; refine (szEndS_any _ (nthL xss m) _ lo hi _ HR.out (by omega) (by omega)).mono ?_; rintro e w' ⟨rfl, rfl⟩; rw [E1.out])
          go_ret
          have h3 := HS.out
          have h4 := HZ.out
          exact ⟨ret_int (by unfold szr; rw [if_neg (by omega)]), rfl⟩
      · obtain rfl : m = xss.length := by omega
        go_wp2
        go_ret
        have h4 := HZ.out
        exact ⟨ret_int (by unfold szr; rw [if_pos (by omega)]; omega), rfl⟩
  · have : left - xss.length < 0 := by omega
    go_enter Try.func21, Try.ntmps21
    go_wp2
    go_ret
    have h4 := HZ.out
    exact ⟨ret_int (by unfold szr; rw [if_neg (by omega)]), rfl⟩

set_option maxHeartbeats 1000000 in
theorem toEndSS_any (v : Value) (xss : List (List (Int × Int))) (lo hi : Nat) (w : World) (h : EndSS w lo hi v xss) (hhi : hi ≤ w.heap.size) (hn : szSS xss ≤ 1048576) :
    Calls Try.prog 29 #[v] w fun e w' => ∃ r, e = .returned r ∧ EndSSx w' w.heap.size w'.heap.size r xss ∧ Below w.heap.size w w' := by
  obtain ⟨A, c, rfl, hc1, hc2, hcell⟩ := h.form
  have hln : xss.length ≤ 1048576 := by unfold szSS at hn; omega
  have hmk := fun W => run_make_row' (P := Try.prog) 32 61 (.slice none 0 0) 24 Try.underlying32 Try.info61 rfl .i64 .i64 xss.length (by omega) (by omega) W
  go_enter Try.func29, Try.ntmps29
  go_wp2
  go_loopw [4] (fun i wr => ∃ (k : Nat) (vs : Nat → Value), k ≤ xss.length ∧ i = .int .i64 k ∧ wr.rowIs w.heap.size 61 xss.length (fun j => if j < k then vs j else .slice none 0 0) ∧ (∀ j, j < k → EndS wr (w.heap.size + 1) wr.heap.size (vs j) (nthL xss j)) ∧
      (∀ i j, i < j → j < k → rowOf (nthL xss i).length (vs i) = none ∨ rowOf (nthL xss i).length (vs i) ≠ rowOf (nthL xss j).length (vs j)) ∧ Below w.heap.size w wr) (fun i _ => xss.length - (intOf i).toNat)
  case atStart => exact ⟨0, fun _ => undef, Nat.zero_le _, rfl, (World.rowIs_made w (.slice none 0 0) xss.length 61).congr (fun i _ => by simp), fun j hj => absurd hj (by omega), fun i j _ hj => absurd hj (by omega), (Below.refl _ _).alloc (Nat.le_refl _) _⟩
  case round =>
    obtain ⟨k, vs, hk, rfl, hrow, hvs, hap, hb⟩ := hrel
    clear hmk
    have HV := Lib.hid hvs
    have HA := Lib.hid hap
    clear hvs hap
    by_cases hlt : k < xss.length
    · obtain ⟨b, off, rfl, hb1, hb2, hcs⟩ := hcell (by omega)
      obtain ⟨u, hcu, hR⟩ := hcs k hlt
      have hck := (hb.cell (p := ⟨b, off + k, none⟩) (by show b < _; omega)).trans hcu
      have hRw : EndS wr lo hi u (nthL xss k) := hR.below hb (by omega)
      have HR := Lib.hid hRw
      have hlk := len_le_cnt xss k hlt
      have hlk2 : (nthL xss k).length ≤ 16777216 := by unfold szSS at hn; omega
      obtain ⟨A2, c2, rfl, hd1, hd2, _⟩ := hR.form
      clear hcs hcell hR hcu hRw
      have hs0 := hb.size
      go_wp2_with fail
      refine (toEndS_any _ (nthL xss k) lo hi _ HR.out (by omega) hlk2).mono ?_
      rintro e w1 ⟨r, rfl, hr, hbq⟩
      have hs1 := hbq.size
      have hrow1 : w1.rowIs w.heap.size 61 xss.length (fun j => if j < k then vs j else .slice none 0 0) := hrow.of_block (hbq.block _ hrow.lt)
      have hbw1 := hb.trans (hbq.mono hb.size)
      have oc := hrow1.cell (i := k) hlt
      have of := hrow1.frozen k
      have RR := Lib.hid hr
      obtain ⟨Ar, cr, rfl, hr1, hr2, _⟩ := hr.form
      have hlt0 := hrow.lt
      clear hck hr
      go_wp2_with fail
      go_roundw
      case rel =>
        refine ⟨k + 1, fun j => if j = k then .slice Ar (nthL xss k).length cr else vs j, by omega, by go_num, ?_, ?_, ?_, hbw1.setCell (by simp) _⟩
        · refine (hrow1.set k _).congr fun j hj => ?_
          dsimp only
          by_cases e : j = k
          · subst e; rw [if_pos rfl, if_pos (by omega), if_pos rfl]
          · rw [if_neg e]
            by_cases e2 : j < k
            · rw [if_pos e2, if_pos (by omega), if_neg e]
            · rw [if_neg e2, if_neg (by omega)]
        · intro j hj
          show EndS _ _ _ (if j = k then .slice Ar (nthL xss k).length cr else vs j) _
          have hkeep : ∀ q, w.heap.size + 1 ≤ q → (w1.setCell ⟨w.heap.size, k, none⟩ (.slice Ar (nthL xss k).length cr)).heap[q]? = w1.heap[q]? := fun q hq => Below.heap_setCell _ _ _ _ (by show q ≠ w.heap.size; omega)
          by_cases e : j = k
          · subst e
            rw [if_pos rfl]
            exact (RR.out.mono (by omega) (by simp [World.setCell])).keep fun q hq _ => hkeep q (by omega)
          · rw [if_neg e]
            exact (((HV.out j (by omega)).below hbq (Nat.le_refl _)).mono (Nat.le_refl _) (by simpa [World.setCell] using hs1)).keep fun q hq _ => hkeep q hq
        · intro i j hij hj
          show rowOf _ (if i = k then .slice Ar (nthL xss k).length cr else vs i) = none ∨ rowOf _ (if i = k then .slice Ar (nthL xss k).length cr else vs i) ≠ rowOf _ (if j = k then .slice Ar (nthL xss k).length cr else vs j)
          rw [if_neg (by omega)]
          by_cases e : j = k
          · subst e
            rw [if_pos rfl]
            rcases Sl.row (HV.out i (by omega)) with e1 | ⟨b1, e1, _, e3⟩
            · exact .inl e1
            · right
              rw [e1]
              rcases Sl.row RR.out with e4 | ⟨b2, e4, e5, _⟩
              · rw [e4]; simp
              · rw [e4]; intro e6; injection e6; omega
          · rw [if_neg e]
            exact HA.out i j hij (by omega)
      case measure => simp [intOf]; omega
    · obtain rfl : k = xss.length := by omega
      go_wp2
      go_ret
      refine ⟨.slice (some ⟨w.heap.size, 0, none⟩) xss.length xss.length, rfl, ⟨vs, ?_, fun i hi => (HV.out i hi).mono (by omega) (Nat.le_refl _), HA.out, fun i hi => ?_⟩, hb⟩
      · exact (Sl.of_row hrow (Nat.le_refl _) (by omega) (Nat.le_refl _) (by unfold maxLen; omega)).congr fun j hj => by rw [if_pos (by omega)]
      · rcases Sl.row (HV.out i hi) with e1 | ⟨b1, e1, e2, e3⟩
        · exact .inl e1
        · right
          rw [e1, rowOf_some (by omega)]
          intro e6; injection e6; omega

set_option maxHeartbeats 1000000 in
theorem eqEndSS_same (v1 v2 : Value) (xss : List (List (Int × Int))) (lo1 hi1 lo2 hi2 : Nat) (w : World) (h1 : EndSS w lo1 hi1 v1 xss) (h2 : EndSS w lo2 hi2 v2 xss) (hh1 : hi1 ≤ w.heap.size) (hh2 : hi2 ≤ w.heap.size) :
    Calls Try.prog 37 #[v1, v2] w fun e w' => e = .returned (.bool true) ∧ Below w.heap.size w w' := by
  obtain ⟨A, c, rfl, hc1, hc2, hcell⟩ := h1.form
  obtain ⟨A2, c2, rfl, hd1, hd2, hcell2⟩ := h2.form
  unfold maxLen at hc2 hd2
  go_enter Try.func37, Try.ntmps37
  go_wp2
  go_loopw [5] (fun i wr => ∃ k : Nat, k ≤ xss.length ∧ i = .int .i64 k ∧ Below w.heap.size w wr) (fun i _ => xss.length - (intOf i).toNat)
  case atStart => exact ⟨0, Nat.zero_le _, rfl, Below.refl _ _⟩
  case round =>
    obtain ⟨k, hk, rfl, hb⟩ := hrel
    have hs0 := hb.size
    by_cases hlt : k < xss.length
    · obtain ⟨b, off, rfl, hb1, hb2, hcs⟩ := hcell (by omega)
      obtain ⟨b', off', rfl, hb1', hb2', hcs'⟩ := hcell2 (by omega)
      obtain ⟨u1, x1, r1⟩ := hcs k hlt
      obtain ⟨u2, x2, r2⟩ := hcs' k hlt
      have p1 := (hb.cell (p := ⟨b, off + k, none⟩) (by show b < _; omega)).trans x1
      have p2 := (hb.cell (p := ⟨b', off' + k, none⟩) (by show b' < _; omega)).trans x2
      have R1 := Lib.hid (r1.below hb (by omega))
      have R2 := Lib.hid (r2.below hb (by omega))
      obtain ⟨B1, e1, rfl, _, _, _⟩ := r1.form
      obtain ⟨B2, e2, rfl, _, _, _⟩ := r2.form
      clear hcs hcs' hcell hcell2 x1 x2 r1 r2
      have q1 : hi1 ≤ wr.heap.size := by omega
      have q2 : hi2 ≤ wr.heap.size := by omega
      go_wp2
      go_region_with (go_at_call 61; refine (eqEndS_same _ _ (nthL xss k) lo1 hi1 lo2 hi2 _ (by exact R1.out) (by exact R2.out) (by exact q1) (by exact q2)).mono ?_; rintro e w1 ⟨rfl, hbq⟩)
      all_goals (try go_wp2)
      all_goals go_roundw
      case rel => exact ⟨k + 1, by omega, by go_num, hb.drew.trans (hbq.mono hb.size)⟩
      case measure => simp [intOf]; omega
      case rel => exact ⟨k + 1, by omega, by go_num, hb.drew.trans (hbq.mono hb.size)⟩
      case measure => simp [intOf]; omega
    · obtain rfl : k = xss.length := by omega
      go_wp2
      go_ret
      exact ⟨rfl, hb⟩

/-- what mark leaves in a slice of slices -/
def mkEndSS (k : Int) (xss : List (List (Int × Int))) : List (List (Int × Int)) := (List.range xss.length).map fun i => runE (k + 2 * sumL xss i) (nthL xss i).length
theorem mkEndSS_length (k : Int) (xss : List (List (Int × Int))) : (mkEndSS k xss).length = xss.length := by simp [mkEndSS]
theorem nthL_mkEndSS (k : Int) (xss : List (List (Int × Int))) (i : Nat) (h : i < xss.length) : nthL (mkEndSS k xss) i = runE (k + 2 * sumL xss i) (nthL xss i).length := by
  rw [nthL_eq (by rw [mkEndSS_length]; exact h)]
  simp [mkEndSS]

set_option maxHeartbeats 2000000 in
theorem markEndSS_any (v : Value) (xss : List (List (Int × Int))) (k : Int) (lo hi : Nat) (w : World) (h : EndSSx w lo hi v xss) (hhi : hi ≤ w.heap.size) (hk0 : 0 ≤ k) (hk1 : k ≤ 1099511627776) (hn : cntSS xss ≤ 1099511627776) :
    Calls Try.prog 45 #[v, .int .i64 k] w fun e w' => e = .returned (.int .i64 (k + 2 * cntSS xss)) ∧ EndSSx w' lo hi v (mkEndSS k xss) ∧ Turned lo hi w w' := by
  obtain ⟨A, c, rfl, hc1, hc2, hcell⟩ := h.ss.form
  obtain ⟨vs, hsl, hvs, hap, hao⟩ := h
  unfold maxLen at hc2
  have HV := Lib.hid hvs
  have HA := Lib.hid hap
  have HO := Lib.hid hao
  clear hvs hap hao
  go_enter Try.func45, Try.ntmps45
  go_wp2
  go_loopw [5, 1] (fun i kv wr => ∃ m : Nat, m ≤ xss.length ∧ i = .int .i64 m ∧ kv = .int .i64 (k + 2 * sumL xss m) ∧ Sl wr lo hi 1 (.slice A xss.length c) xss.length vs ∧
      (∀ j, j < m → EndS wr lo hi (vs j) (runE (k + 2 * sumL xss j) (nthL xss j).length)) ∧ (∀ j, m ≤ j → j < xss.length → EndS wr lo hi (vs j) (nthL xss j)) ∧ Turned lo hi w wr ∧ Hid (wr.heap.size = w.heap.size)) (fun i _ _ => xss.length - (intOf i).toNat)
  case atStart => exact ⟨0, Nat.zero_le _, rfl, by rw [sumL_zero]; simp, hsl, fun j hj => absurd hj (by omega), fun j _ hj => HV.out j hj, Turned.refl _ _ _, Lib.hid rfl⟩
  case round =>
    obtain ⟨m, hm, rfl, rfl, hs, hl, hr, ht, HS⟩ := hrel
    have HL := Lib.hid hl
    have HR := Lib.hid hr
    clear hl hr
    have hmo := sumL_mono xss m hm
    have hcs : sumL xss xss.length ≤ 1099511627776 := hn
    have hsz : w.heap.size ≤ wr.heap.size := ht.size
    by_cases hlt : m < xss.length
    · obtain ⟨b, off, rfl, hb1, hb2, _⟩ := hcell (by omega)
      obtain ⟨hck, hfk⟩ := hs.at_ (j := m) (by omega)
      have hu := HR.out m (Nat.le_refl _) hlt
      have HU := Lib.hid hu
      have HSU := Lib.hid (sumL_succ xss m hlt)
      have hmo2 := sumL_mono xss (m + 1) (by omega)
      have hlen : (nthL xss m).length ≤ 1099511627776 := by have := HSU.out; omega
      obtain ⟨A2, c2, e2, hd1, hd2, _⟩ := hu.form
      rw [e2] at hck
      rw [e2] at HU
      have E2 := Lib.hid e2
      clear hu e2 hcell hfk
      go_wp2_with fail
      refine (markEndS_any _ (nthL xss m) _ lo hi _ HU.out (by omega) (by omega) (by omega) (by omega)).mono ?_
      rintro e w1 ⟨rfl, hr1, hg1, hz1⟩
      have HR1 := Lib.hid hr1
      have HZ1 := Lib.hid hz1
      clear hr1 hz1
      go_wp2_with fail
      go_roundw
      case rel =>
        have hT : Turned lo hi wr w1 := Turned.of_row (HU.out) hg1
        refine ⟨m + 1, by omega, by go_num, by rw [HSU.out]; go_num, ?_, ?_, ?_, ht.trans hT, Lib.hid (by rw [HZ1.out]; exact HS.out)⟩
        · refine hs.grown hg1 (by omega) ?_
          have := HO.out m hlt
          rw [E2.out] at this
          rcases this with e | e
          · right; rw [e, rowOf_some (by omega)]; simp
          · exact .inr fun e3 => e e3.symm
        · intro j hj
          by_cases e : j = m
          · subst e; rw [E2.out]; exact HR1.out
          · refine Sl.grown (HL.out j (by omega)) hg1 (by omega) ?_
            rw [runE_length]
            have := HA.out j m (by omega) hlt
            rw [E2.out] at this
            exact this
        · intro j hj hjl
          refine Sl.grown (HR.out j (by omega) hjl) hg1 (by omega) ?_
          have := HA.out m j (by omega) hjl
          rw [E2.out] at this
          rcases this with e | e
          · cases hq : rowOf (nthL xss j).length (vs j) with
            | none => exact .inl rfl
            | some q => right; rw [e]; simp
          · exact .inr fun e3 => e e3.symm
      case measure => simp [intOf]; omega
    · obtain rfl : m = xss.length := by omega
      go_wp2
      go_ret
      refine ⟨rfl, ⟨vs, ?_, fun i hi => ?_, fun i j hij hj => ?_, fun i hi => ?_⟩, ht⟩
      · rw [mkEndSS_length]; exact hs
      · rw [mkEndSS_length] at hi
        rw [nthL_mkEndSS _ _ _ hi]
        exact HL.out i hi
      · rw [mkEndSS_length] at hj
        rw [nthL_mkEndSS _ _ _ hj, nthL_mkEndSS _ _ _ (by omega), runE_length, runE_length]
        exact HA.out i j hij hj
      · rw [mkEndSS_length] at hi
        rw [nthL_mkEndSS _ _ _ hi, runE_length, mkEndSS_length]
        exact HO.out i hi

end Go.Proofs.Ytcmmklcampmkjaa

/- Contracts of the laws' helpers on slices of slices of integers. -/
namespace Go.Proofs.Ytcmmklcampmkjaa
open Go.ChangeShapes Go.WideShapes Go.ChangeAt Go.RowKit
set_option linter.unusedVariables false

theorem Try.info23 : (Try.prog.info? 23).map (fun i => (i.zero, i.size, i.bytes)) = some (some (.slice none 0 0), 1, 24) := by kernel_rfl

end Go.Proofs.Ytcmmklcampmkjaa

/- Contracts of the laws' helpers on networks: szNetwork counts, toNetwork copies, eqNetwork compares, markNetwork writes. -/
namespace Go.Proofs.Ytcmmklcampmkjaa
open Go.ChangeShapes Go.WideShapes Go.ChangeAt Go.RowKit
set_option linter.unusedVariables false

def NetD.sz (N : NetD) : Nat := szSS N.ends + N.ids.length + N.inputs.length
def NetD.cnt (N : NetD) : Nat := 2 * cntSS N.ends + N.ids.length + N.inputs.length
/-- every number of the network fits an int -/
structure NetD.Ok (N : NetD) : Prop where
  ends : ∀ l ∈ N.ends, ∀ e ∈ l, I64 e.1 ∧ I64 e.2
  ids : ∀ z ∈ N.ids, I64 z
  inputs : ∀ z ∈ N.inputs, I64 z

theorem NetD.cnt_le (N : NetD) : N.cnt ≤ 2 * N.sz := by unfold NetD.cnt NetD.sz szSS; omega
theorem szr_pos {left : Int} {n : Nat} (h : (n : Int) ≤ left) : szr left n = left - n := by unfold szr; rw [if_pos h]
theorem szr_neg {left : Int} {n : Nat} (h : ¬ (n : Int) ≤ left) : szr left n = -1 := by unfold szr; rw [if_neg h]

set_option maxHeartbeats 1000000 in
theorem szNetwork_any (v : Value) (N : NetD) (left : Int) (lo hi : Nat) (w : World) (h : Net w lo hi v N) (hhi : hi ≤ w.heap.size) (h0 : 0 ≤ left) (h1 : left ≤ 1048576) :
    Calls Try.prog 5 #[v, .int .i64 left] w fun e w' => e = .returned (.int .i64 (szr left N.sz)) ∧ Below w.heap.size w w' := by
  obtain ⟨ve, vi, vn, rfl, he, hi1, hn1⟩ := h
  have hz : N.sz = szSS N.ends + N.ids.length + N.inputs.length := rfl
  have HZ := Lib.hid hz
  clear hz
  have HE := Lib.hid (ESS.below he (below_a1 w (.cells #[ve, vi, vn] 25)) hhi)
  have HI := Lib.hid (hi1.below (below_a1 w (.cells #[ve, vi, vn] 25)) hhi)
  have HN := Lib.hid (hn1.below (below_a1 w (.cells #[ve, vi, vn] 25)) hhi)
  obtain ⟨A, c, rfl⟩ := he.shape
  obtain ⟨A2, c2, rfl⟩ := hi1.shape
  obtain ⟨A3, c3, rfl⟩ := hn1.shape
  clear he hi1 hn1
  go_enter Try.func5, Try.ntmps5
  go_wp2_with fail
  refine (szEndSS_any _ N.ends _ lo hi _ HE.out h0 h1).mono ?_
  rintro e w' ⟨rfl, rfl⟩
  by_cases c1 : (szSS N.ends : Int) ≤ left
  case neg =>
    rw [szr_neg c1]
    go_wp2_with fail
    go_ret
    have := HZ.out
    exact ⟨ret_int (szr_neg (by omega)).symm, below_a1 _ _⟩
  rw [szr_pos c1]
  go_wp2_with fail
  refine (szIntS_any _ N.ids _ lo hi _ HI.out (by omega) (by omega)).mono ?_
  rintro e w' ⟨rfl, rfl⟩
  by_cases c2 : (N.ids.length : Int) ≤ left - szSS N.ends
  case neg =>
    rw [szr_neg c2]
    go_wp2_with fail
    go_ret
    have := HZ.out
    exact ⟨ret_int (szr_neg (by omega)).symm, below_a1 _ _⟩
  rw [szr_pos c2]
  go_wp2_with fail
  refine (szIntS_any _ N.inputs _ lo hi _ HN.out (by omega) (by omega)).mono ?_
  rintro e w' ⟨rfl, rfl⟩
  by_cases c3 : (N.inputs.length : Int) ≤ left - szSS N.ends - N.ids.length
  case neg =>
    rw [szr_neg c3]
    go_wp2_with fail
    go_ret
    have := HZ.out
    exact ⟨ret_int (szr_neg (by omega)).symm, below_a1 _ _⟩
  rw [szr_pos c3]
  go_wp2_with fail
  go_ret
  have := HZ.out
  exact ⟨ret_int (by rw [szr_pos (by omega)]; omega), below_a1 _ _⟩
theorem szNetwork_yes (v : Value) (N : NetD) (left : Int) (lo hi : Nat) (w : World) (h : Net w lo hi v N) (hhi : hi ≤ w.heap.size) (h1 : left ≤ 1048576) (h2 : (N.sz : Int) ≤ left) :
    Calls Try.prog 5 #[v, .int .i64 left] w fun e w' => e = .returned (.int .i64 (left - N.sz)) ∧ Below w.heap.size w w' :=
  (szNetwork_any v N left lo hi w h hhi (by omega) h1).mono fun e w' ⟨a, b⟩ => ⟨by rw [a, szr_pos h2], b⟩
theorem szNetwork_no (v : Value) (N : NetD) (left : Int) (lo hi : Nat) (w : World) (h : Net w lo hi v N) (hhi : hi ≤ w.heap.size) (h0 : 0 ≤ left) (h1 : left ≤ 1048576) (h2 : ¬ (N.sz : Int) ≤ left) :
    Calls Try.prog 5 #[v, .int .i64 left] w fun e w' => e = .returned (.int .i64 (-1)) ∧ Below w.heap.size w w' :=
  (szNetwork_any v N left lo hi w h hhi h0 h1).mono fun e w' ⟨a, b⟩ => ⟨by rw [a, szr_neg h2], b⟩

set_option maxHeartbeats 1000000 in
theorem toNetwork_any (v : Value) (N : NetD) (lo hi : Nat) (w : World) (h : Net w lo hi v N) (hhi : hi ≤ w.heap.size) (hsz : N.sz ≤ 1048576) :
    Calls Try.prog 8 #[v] w fun e w' => ∃ r, e = .returned r ∧ NetX w' w.heap.size w'.heap.size r N ∧ Below w.heap.size w w' := by
  obtain ⟨ve, vi, vn, rfl, he, hi1, hn1⟩ := h
  unfold NetD.sz at hsz
  have HE := Lib.hid he
  have HI := Lib.hid hi1
  have HN := Lib.hid hn1
  obtain ⟨A, c, rfl⟩ := he.shape
  obtain ⟨A2, c2, rfl⟩ := hi1.shape
  obtain ⟨A3, c3, rfl⟩ := hn1.shape
  clear he hi1 hn1
  go_enter Try.func8, Try.ntmps8
  go_wp2_with fail
  obtain ⟨W0, HW0⟩ : ∃ W0, Hid (W0 = ((w.alloc (.cells #[.slice A N.ends.length c, .slice A2 N.ids.length c2, .slice A3 N.inputs.length c3] 25)).alloc (.cells #[.slice none 0 0, .slice none 0 0, .slice none 0 0] 34)).alloc (.cells #[.slice none 0 0, .slice none 0 0, .slice none 0 0] 34)) := ⟨_, Lib.hid rfl⟩
  rw [← HW0.out]
  have hb0 : Below w.heap.size w W0 := by rw [HW0.out]; exact below_a3 _ _ _ _
  have hs0 : w.heap.size + 3 ≤ W0.heap.size := by rw [HW0.out]; simp
  have b0 : Box3 W0 w.heap.size 25 (.slice A N.ends.length c) (.slice A2 N.ids.length c2) (.slice A3 N.inputs.length c3) := by rw [HW0.out]; exact ((Box3.new _ _ _ _ _).alloc _).alloc _
  have b1 : Box3 W0 (w.heap.size + 1) 34 (.slice none 0 0) (.slice none 0 0) (.slice none 0 0) := by
    rw [HW0.out]; refine Box3.alloc ?_ _; have := Box3.new (w.alloc (.cells #[.slice A N.ends.length c, .slice A2 N.ids.length c2, .slice A3 N.inputs.length c3] 25)) 34 (.slice none 0 0) (.slice none 0 0) (.slice none 0 0); simpa using this
  have b2 : Box3 W0 (w.heap.size + 1 + 1) 34 (.slice none 0 0) (.slice none 0 0) (.slice none 0 0) := by
    rw [HW0.out]; have := Box3.new ((w.alloc (.cells #[.slice A N.ends.length c, .slice A2 N.ids.length c2, .slice A3 N.inputs.length c3] 25)).alloc (.cells #[.slice none 0 0, .slice none 0 0, .slice none 0 0] 34)) 34 (.slice none 0 0) (.slice none 0 0) (.slice none 0 0); simpa using this
  clear HW0
  refine (toEndSS_any _ N.ends lo hi _ (ESS.below HE.out hb0 hhi) (by omega) (by omega)).mono ?_
  rintro e w1 ⟨r1, rfl, hr1, hb1⟩
  have hs1 := hb1.size
  have R1 := Lib.hid hr1
  obtain ⟨B1, d1, rfl⟩ := hr1.ss.shape
  clear hr1
  have a0 := b0.below hb1 (by omega)
  have a1 := b1.below hb1 (by omega)
  have a2 := b2.below hb1 (by omega)
  have hw1 := hb0.trans (hb1.mono (by omega))
  clear b0 b1 b2 hb0 hb1
  have e0 := a0.cells.2.1
  have e1 := a2.cells.1
  have f1 := a2.frozen 0
  go_wp2_with fail
  clear e0 e1 f1
  replace a0 := a0.far (p := ⟨w.heap.size + 1 + 1, 0, none⟩) (by simp; omega) (.slice B1 N.ends.length d1)
  replace a1 := a1.far (p := ⟨w.heap.size + 1 + 1, 0, none⟩) (by simp) (.slice B1 N.ends.length d1)
  replace a2 := a2.set0 (.slice B1 N.ends.length d1)
  replace hw1 := hw1.setCell (p := ⟨w.heap.size + 1 + 1, 0, none⟩) (by simp; omega) (.slice B1 N.ends.length d1)
  have R1a := Lib.hid (ESSx.setCell R1.out (p := ⟨w.heap.size + 1 + 1, 0, none⟩) (by left; simp; omega) (.slice B1 N.ends.length d1))
  clear R1
  refine (toIntS_any _ N.ids lo hi _ (HI.out.below hw1 hhi) (by rw [size_setCell]; omega) (by omega)).mono ?_
  rintro e w2 ⟨r2, rfl, hr2, hb2⟩
  rw [size_setCell] at hr2 hb2
  have hs2 := hb2.size
  rw [size_setCell] at hs2
  have R2 := Lib.hid hr2
  obtain ⟨B2, d2, rfl⟩ := hr2.shape
  clear hr2
  replace a0 := a0.below hb2 (by omega)
  replace a1 := a1.below hb2 (by omega)
  replace a2 := a2.below hb2 (by omega)
  replace hw1 := hw1.trans (hb2.mono (by omega))
  have R1b := Lib.hid (ESSx.below R1a.out hb2 (Nat.le_refl _))
  clear R1a hb2
  have e0 := a0.cells.2.2
  have e1 := a2.cells.2.1
  have f1 := a2.frozen 1
  go_wp2_with fail
  clear e0 e1 f1
  replace a0 := a0.far (p := ⟨w.heap.size + 1 + 1, 1, none⟩) (by simp; omega) (.slice B2 N.ids.length d2)
  replace a1 := a1.far (p := ⟨w.heap.size + 1 + 1, 1, none⟩) (by simp) (.slice B2 N.ids.length d2)
  replace a2 := a2.set1 (.slice B2 N.ids.length d2)
  replace hw1 := hw1.setCell (p := ⟨w.heap.size + 1 + 1, 1, none⟩) (by simp; omega) (.slice B2 N.ids.length d2)
  have R1c := Lib.hid (ESSx.setCell R1b.out (p := ⟨w.heap.size + 1 + 1, 1, none⟩) (by left; simp; omega) (.slice B2 N.ids.length d2))
  have R2a := Lib.hid (R2.out.setCell (p := ⟨w.heap.size + 1 + 1, 1, none⟩) (by left; simp; omega) (.slice B2 N.ids.length d2))
  clear R1b R2
  refine (toIntS_any _ N.inputs lo hi _ (HN.out.below hw1 hhi) (by rw [size_setCell]; omega) (by omega)).mono ?_
  rintro e w3 ⟨r3, rfl, hr3, hb3⟩
  rw [size_setCell] at hr3 hb3
  have hs3 := hb3.size
  rw [size_setCell] at hs3
  have R3 := Lib.hid hr3
  obtain ⟨B3, d3, rfl⟩ := hr3.shape
  clear hr3
  replace a1 := a1.below hb3 (by omega)
  replace a2 := a2.below hb3 (by omega)
  replace hw1 := hw1.trans (hb3.mono (by omega))
  have R1d := Lib.hid (ESSx.below R1c.out hb3 (by omega))
  have R2b := Lib.hid (R2a.out.below hb3 (Nat.le_refl _))
  clear R1c R2a hb3 a0
  obtain ⟨e0, e1, e2⟩ := a2.cells
  obtain ⟨g0, g1, g2⟩ := a1.cells
  have f0 := a2.frozen 2
  have k0 := a1.frozen 0
  have k1 := a1.frozen 1
  have k2 := a1.frozen 2
  go_wp2_with fail
  clear e0 e1 e2 g0 g1 g2 f0 k0 k1 k2
  have z := ((((a1.far (p := ⟨w.heap.size + 1 + 1, 2, none⟩) (by simp) (.slice B3 N.inputs.length d3)).set0 (.slice B1 N.ends.length d1)).set1 (.slice B2 N.ids.length d2)).set2 (.slice B3 N.inputs.length d3)).cells
  refine bodyPost_ret (v := .agg #[.slice B1 N.ends.length d1, .slice B2 N.ids.length d2, .slice B3 N.inputs.length d3]) (by simp [results, Try.results8, go_sem, z.1, z.2.1, z.2.2]) rfl ⟨_, rfl, ?_, ?_⟩
  · have q1 := ESSx.setCell (ESSx.setCell (ESSx.setCell (ESSx.setCell R1d.out (p := ⟨w.heap.size + 1 + 1, 2, none⟩) (by left; simp; omega) (.slice B3 N.inputs.length d3)) (p := ⟨w.heap.size + 1, 0, none⟩) (by left; simp; omega) (.slice B1 N.ends.length d1)) (p := ⟨w.heap.size + 1, 1, none⟩) (by left; simp; omega) (.slice B2 N.ids.length d2)) (p := ⟨w.heap.size + 1, 2, none⟩) (by left; simp; omega) (.slice B3 N.inputs.length d3)
    have q2 := (((R2b.out.setCell (p := ⟨w.heap.size + 1 + 1, 2, none⟩) (by left; simp; omega) (.slice B3 N.inputs.length d3)).setCell (p := ⟨w.heap.size + 1, 0, none⟩) (by left; simp; omega) (.slice B1 N.ends.length d1)).setCell (p := ⟨w.heap.size + 1, 1, none⟩) (by left; simp; omega) (.slice B2 N.ids.length d2)).setCell (p := ⟨w.heap.size + 1, 2, none⟩) (by left; simp; omega) (.slice B3 N.inputs.length d3)
    have q3 := (((R3.out.setCell (p := ⟨w.heap.size + 1 + 1, 2, none⟩) (by left; simp; omega) (.slice B3 N.inputs.length d3)).setCell (p := ⟨w.heap.size + 1, 0, none⟩) (by left; simp; omega) (.slice B1 N.ends.length d1)).setCell (p := ⟨w.heap.size + 1, 1, none⟩) (by left; simp; omega) (.slice B2 N.ids.length d2)).setCell (p := ⟨w.heap.size + 1, 2, none⟩) (by left; simp; omega) (.slice B3 N.inputs.length d3)
    rw [size_setCell, size_setCell, size_setCell, size_setCell]
    exact ⟨_, _, _, w1.heap.size, w2.heap.size, rfl, by omega, hs2, hs3, ESSx.mono q1 (by omega) (Nat.le_refl _), q2, q3⟩
  · exact (((hw1.setCell (by simp; omega) _).setCell (by simp) _).setCell (by simp) _).setCell (by simp) _

set_option maxHeartbeats 1000000 in
theorem eqNetwork_same (v1 v2 : Value) (N : NetD) (lo1 hi1 lo2 hi2 : Nat) (w : World) (h1 : Net w lo1 hi1 v1 N) (h2 : Net w lo2 hi2 v2 N) (hh1 : hi1 ≤ w.heap.size) (hh2 : hi2 ≤ w.heap.size) :
    Calls Try.prog 11 #[v1, v2] w fun e w' => e = .returned (.bool true) ∧ Below w.heap.size w w' := by
  obtain ⟨ve, vi, vn, rfl, he, hi, hn⟩ := h1
  obtain ⟨ve', vi', vn', rfl, he', hi', hn'⟩ := h2
  have HE := Lib.hid he; have HI := Lib.hid hi; have HN := Lib.hid hn
  have HE' := Lib.hid he'; have HI' := Lib.hid hi'; have HN' := Lib.hid hn'
  obtain ⟨A1, c1, rfl⟩ := he.shape
  obtain ⟨A2, c2, rfl⟩ := hi.shape
  obtain ⟨A3, c3, rfl⟩ := hn.shape
  obtain ⟨A4, c4, rfl⟩ := he'.shape
  obtain ⟨A5, c5, rfl⟩ := hi'.shape
  obtain ⟨A6, c6, rfl⟩ := hn'.shape
  clear he hi hn he' hi' hn'
  go_enter Try.func11, Try.ntmps11
  go_wp2_with fail
  obtain ⟨W0, HW0⟩ : ∃ W0, Hid (W0 = (w.alloc (.cells #[.slice A1 N.ends.length c1, .slice A2 N.ids.length c2, .slice A3 N.inputs.length c3] 34)).alloc (.cells #[.slice A4 N.ends.length c4, .slice A5 N.ids.length c5, .slice A6 N.inputs.length c6] 34)) := ⟨_, Lib.hid rfl⟩
  rw [← HW0.out]
  have hb0 : Below w.heap.size w W0 := by rw [HW0.out]; exact below_a2 _ _ _
  have hs0 : w.heap.size + 2 ≤ W0.heap.size := by rw [HW0.out]; simp
  have b0 : Box3 W0 w.heap.size 34 (.slice A1 N.ends.length c1) (.slice A2 N.ids.length c2) (.slice A3 N.inputs.length c3) := by rw [HW0.out]; exact (Box3.new _ _ _ _ _).alloc _
  have b1 : Box3 W0 (w.heap.size + 1) 34 (.slice A4 N.ends.length c4) (.slice A5 N.ids.length c5) (.slice A6 N.inputs.length c6) := by
    rw [HW0.out]; have := Box3.new (w.alloc (.cells #[.slice A1 N.ends.length c1, .slice A2 N.ids.length c2, .slice A3 N.inputs.length c3] 34)) 34 (.slice A4 N.ends.length c4) (.slice A5 N.ids.length c5) (.slice A6 N.inputs.length c6); simpa using this
  clear HW0
  refine (eqEndSS_same _ _ N.ends lo1 hi1 lo2 hi2 _ (ESS.below HE.out hb0 hh1) (ESS.below HE'.out hb0 hh2) (by omega) (by omega)).mono ?_
  rintro e w1 ⟨rfl, hb1⟩
  have hs1 := hb1.size
  have a0 := b0.below hb1 (by omega)
  have a1 := b1.below hb1 (by omega)
  have hw1 := hb0.trans (hb1.mono (by omega))
  clear b0 b1 hb0 hb1
  have e0 := a0.cells.2.1
  have e1 := a1.cells.2.1
  go_wp2_with fail
  clear e0 e1
  refine (eqIntS_same _ _ N.ids lo1 hi1 lo2 hi2 _ (HI.out.below hw1 hh1) (HI'.out.below hw1 hh2) (by omega) (by omega)).mono ?_
  rintro e w2 ⟨rfl, hb2⟩
  have hs2 := hb2.size
  replace a0 := a0.below hb2 (by omega)
  replace a1 := a1.below hb2 (by omega)
  replace hw1 := hw1.trans (hb2.mono (by omega))
  clear hb2
  have e0 := a0.cells.2.2
  have e1 := a1.cells.2.2
  go_wp2_with fail
  clear e0 e1
  refine (eqIntS_same _ _ N.inputs lo1 hi1 lo2 hi2 _ (HN.out.below hw1 hh1) (HN'.out.below hw1 hh2) (by omega) (by omega)).mono ?_
  rintro e w3 ⟨rfl, hb3⟩
  go_wp2_with fail
  go_ret
  exact ⟨rfl, hw1.trans (hb3.mono (by omega))⟩

/-- what mark leaves in a network -/
def NetD.mk_ (k : Int) (N : NetD) : NetD := ⟨mkEndSS k N.ends, run (k + 2 * cntSS N.ends) N.ids.length, run (k + 2 * cntSS N.ends + N.ids.length) N.inputs.length⟩

set_option maxHeartbeats 1000000 in
theorem markNetwork_any (v : Value) (N : NetD) (k : Int) (lo hi : Nat) (w : World) (h : NetX w lo hi v N) (hhi : hi ≤ w.heap.size) (hk0 : 0 ≤ k) (hk1 : k ≤ 1073741824) (hn : N.cnt ≤ 1073741824) :
    Calls Try.prog 17 #[v, .int .i64 k] w fun e w' => e = .returned (.int .i64 (k + N.cnt)) ∧ NetX w' lo hi v (N.mk_ k) ∧ Turned lo hi w w' := by
  obtain ⟨ve, vi, vn, m1, m2, rfl, h1, h2, h3, he, hi, hn0⟩ := h
  have hz : N.cnt = 2 * cntSS N.ends + N.ids.length + N.inputs.length := rfl
  rw [hz] at hn
  have HZ := Lib.hid hz; clear hz
  have HE := Lib.hid he; have HI := Lib.hid hi; have HN := Lib.hid hn0
  obtain ⟨A1, c1, rfl⟩ := he.ss.shape
  obtain ⟨A2, c2, rfl⟩ := hi.shape
  obtain ⟨A3, c3, rfl⟩ := hn0.shape
  clear he hi hn0
  go_enter Try.func17, Try.ntmps17
  go_wp2_with fail
  obtain ⟨W0, HW0⟩ : ∃ W0, Hid (W0 = w.alloc (.cells #[.slice A1 N.ends.length c1, .slice A2 N.ids.length c2, .slice A3 N.inputs.length c3] 34)) := ⟨_, Lib.hid rfl⟩
  rw [← HW0.out]
  have hb0 : Below w.heap.size w W0 := by rw [HW0.out]; exact below_a1 _ _
  have hs0 : w.heap.size + 1 ≤ W0.heap.size := by rw [HW0.out]; simp
  have b0 : Box3 W0 w.heap.size 34 (.slice A1 N.ends.length c1) (.slice A2 N.ids.length c2) (.slice A3 N.inputs.length c3) := by rw [HW0.out]; exact Box3.new _ _ _ _ _
  clear HW0
  refine (markEndSS_any _ N.ends k lo m1 _ (ESSx.below HE.out hb0 (by omega)) (by omega) hk0 (by omega) (by omega)).mono ?_
  rintro e w1 ⟨rfl, hr1, ht1⟩
  have hs1 := ht1.size
  have R1 := Lib.hid hr1
  have a0 : Box3 w1 w.heap.size 34 (.slice A1 N.ends.length c1) (.slice A2 N.ids.length c2) (.slice A3 N.inputs.length c3) := (ht1.block _ (by omega) (by omega)).trans b0
  have T1 := (Turned.of_below hb0 (Nat.le_refl _)).trans (ht1.mono (Nat.le_refl _) (by omega : m1 ≤ hi))
  have I1 := Lib.hid ((HI.out.below hb0 (by omega)).turned ht1 (by omega) (by omega))
  have N1 := Lib.hid ((HN.out.below hb0 (by omega)).turned ht1 (by omega) (by omega))
  clear hr1 ht1 b0 hb0
  have e0 := a0.cells.2.1
  go_wp2_with fail
  clear e0
  refine (markIntS_any _ N.ids _ m1 m2 _ I1.out (by omega) (by omega) (by omega) (by omega)).mono ?_
  rintro e w2 ⟨rfl, hr2, hg2, hz2⟩
  have ht2 : Turned m1 m2 w1 w2 := Turned.of_row I1.out hg2
  have hs2 := ht2.size
  have R2 := Lib.hid hr2
  have R1b := Lib.hid (ESSx.turned R1.out ht2 (by omega) (by omega))
  replace a0 : Box3 w2 w.heap.size 34 (.slice A1 N.ends.length c1) (.slice A2 N.ids.length c2) (.slice A3 N.inputs.length c3) := (ht2.block _ (by omega) (by omega)).trans a0
  have T2 := T1.trans (ht2.mono h1 h3)
  have N2 := Lib.hid (N1.out.turned ht2 (by omega) (by omega))
  clear hr2 hg2 hz2 ht2 R1 T1 N1
  have e0 := a0.cells.2.2
  go_wp2_with fail
  clear e0
  refine (markIntS_any _ N.inputs _ m2 hi _ N2.out (by omega) (by omega) (by omega) (by omega)).mono ?_
  rintro e w3 ⟨rfl, hr3, hg3, hz3⟩
  have ht3 : Turned m2 hi w2 w3 := Turned.of_row N2.out hg3
  go_wp2_with fail
  go_ret
  have hzz := HZ.out
  refine ⟨ret_int (by omega), ⟨_, _, _, m1, m2, rfl, h1, h2, h3, ESSx.turned R1b.out ht3 (by omega) (by omega), R2.out.turned ht3 (by omega) (by omega), hr3⟩, T2.trans (ht3.mono (by omega) (Nat.le_refl _))⟩

end Go.Proofs.Ytcmmklcampmkjaa

/- Plain laws on lists of numbers: sorting and looking for doubles say the same. -/
namespace Go.Proofs.Ytcmmklcampmkjaa

def sortI (zs : List Int) : List Int := zs.mergeSort fun x y => decide (x ≤ y)
theorem sortI_perm (zs : List Int) : (sortI zs).Perm zs := List.mergeSort_perm _ _
theorem sortI_length (zs : List Int) : (sortI zs).length = zs.length := (sortI_perm zs).length_eq
theorem sortI_sorted (zs : List Int) : (sortI zs).Pairwise (· ≤ ·) := by
  have := List.pairwise_mergeSort (le := fun x y : Int => decide (x ≤ y)) (fun a b c h1 h2 => by simp at *; omega) (fun a b => by simp; omega) zs
  exact this.imp fun h => by simpa using h

theorem nth_lt_of_step {zs : List Int} (h : ∀ j, j + 1 < zs.length → nth zs j < nth zs (j + 1)) : ∀ i j, i < j → j < zs.length → nth zs i < nth zs j := by
  intro i j hij hj
  induction j with
  | zero => omega
  | succ j ih =>
    by_cases e : i = j
    · subst e; exact h i hj
    · have := ih (by omega) (by omega); have := h j hj; omega
theorem rising_iff (zs : List Int) (a b : Int) : rising zs a b = true ↔ (∀ x ∈ zs, inB x a b = true) ∧ zs.Pairwise (· < ·) := by
  constructor
  · intro h
    unfold rising at h
    rw [List.all_eq_true] at h
    have h' : ∀ j, j < zs.length → risingAt zs a b j = true := fun j hj => h j (List.mem_range.2 hj)
    refine ⟨fun x hx => ?_, ?_⟩
    · obtain ⟨j, hj, e⟩ := List.mem_iff_getElem.1 hx
      have := h' j hj
      simp only [risingAt, Bool.and_eq_true] at this
      rw [nth_eq hj, e] at this
      exact this.1
    · rw [List.pairwise_iff_getElem]
      intro i j hi hj hij
      rw [← nth_eq hi, ← nth_eq hj]
      refine nth_lt_of_step (fun k hk => ?_) i j hij hj
      have := h' (k + 1) hk
      simp only [risingAt, Bool.and_eq_true] at this
      simpa using this.2
  · rintro ⟨h1, h2⟩
    refine rising_true fun j hj => ?_
    simp only [risingAt, Bool.and_eq_true]
    refine ⟨h1 _ (nth_mem hj), ?_⟩
    by_cases h0 : j = 0
    · simp [h0]
    · rw [List.pairwise_iff_getElem] at h2
      have := h2 (j - 1) j (by omega) hj (by omega)
      rw [← nth_eq, ← nth_eq] at this
      simp [this]
theorem ids_iff (zs : List Int) : (List.range zs.length).all (idAt zs) = true ↔ (∀ x ∈ zs, inB x 1 999999 = true) ∧ zs.Nodup := by
  rw [List.all_eq_true]
  constructor
  · intro h
    have h' : ∀ j, j < zs.length → inB (nth zs j) 1 999999 = true ∧ nth zs j ∉ zs.take j := fun j hj => by
      have := h j (List.mem_range.2 hj)
      simpa [idAt] using this
    refine ⟨fun x hx => ?_, ?_⟩
    · obtain ⟨j, hj, e⟩ := List.mem_iff_getElem.1 hx
      have := (h' j hj).1
      rwa [nth_eq hj, e] at this
    · unfold List.Nodup
      rw [List.pairwise_iff_getElem]
      intro i j hi hj hij e
      apply (h' j hj).2
      rw [nth_eq hj, ← e]
      exact List.mem_iff_getElem.2 ⟨i, by rw [List.length_take]; omega, by simp⟩
  · rintro ⟨h1, h2⟩ j hj
    rw [List.mem_range] at hj
    simp only [idAt, Bool.and_eq_true, Bool.not_eq_true', decide_eq_false_iff_not]
    refine ⟨h1 _ (nth_mem hj), fun hm => ?_⟩
    obtain ⟨i, hi, e⟩ := List.mem_iff_getElem.1 hm
    rw [List.length_take] at hi
    unfold List.Nodup at h2
    rw [List.pairwise_iff_getElem] at h2
    have := h2 i j (by omega) hj (by omega)
    apply this
    rw [nth_eq hj] at e
    simpa using e
/-- the program's look at identifiers -/
def idsOkB (zs : List Int) (n : Int) : Bool := decide (zs.length = 0) || (decide ((zs.length : Int) = n) && rising (sortI zs) 1 999999)
theorem idsOk_eq (zs : List Int) (n : Int) : idsOkB zs n = idsGood zs n := by
  rcases Nat.eq_zero_or_pos zs.length with h0 | h0
  · have : zs = [] := List.eq_nil_of_length_eq_zero h0
    subst this
    rfl
  · have hz : decide (zs.length = 0) = false := by simp; intro e; subst e; simp at h0
    have hr : rising (sortI zs) 1 999999 = (List.range zs.length).all (idAt zs) := by
      rw [Bool.eq_iff_iff, rising_iff, ids_iff]
      have hp := sortI_perm zs
      constructor
      · rintro ⟨h1, h2⟩
        refine ⟨fun x hx => h1 x (hp.mem_iff.2 hx), ?_⟩
        have : (sortI zs).Nodup := h2.imp fun h => by omega
        exact hp.nodup_iff.1 this
      · rintro ⟨h1, h2⟩
        refine ⟨fun x hx => h1 x (hp.mem_iff.1 hx), ?_⟩
        have hn : (sortI zs).Nodup := hp.nodup_iff.2 h2
        have hs := sortI_sorted zs
        exact (List.Pairwise.and hs hn).imp fun h => by omega
    unfold idsOkB idsGood
    rw [hz, hr, Bool.false_or, Bool.false_or, Bool.and_comm]

end Go.Proofs.Ytcmmklcampmkjaa

/- How two ends are compared. -/
namespace Go.Proofs.Ytcmmklcampmkjaa
open Go.RowKit
theorem neq_end (a b c d : Int) (w : World) : (binOp .neq 60 (.agg #[.int .i64 a, .int .i64 b]) (.agg #[.int .i64 c, .int .i64 d])).run Try.prog w = .ok (.bool (!(a == c && b == d))) w := by
  rw [run_neq_struct, run_equalIn_agg _ _ _ _ _ (by kernel_rfl) (by kernel_rfl)]
  simp only [Program.fieldsOf, Try.underlying60]
  by_cases h1 : a = c <;> by_cases h2 : b = d <;> simp [go_sem, h1, h2, Try.underlying3]
end Go.Proofs.Ytcmmklcampmkjaa
