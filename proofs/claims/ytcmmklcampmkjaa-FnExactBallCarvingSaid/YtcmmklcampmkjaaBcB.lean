/-
  Several texts in one: Ints, Open, Base. No condition on any program.
-/
import Derived.Test.YtcmmklcampmkjaaRows
import Derived.Test.YtcmmklcampmkjaaBcA
import Derived.WalkKit
import Derived.ProofKit
import Derived.Outline
import Derived.BigQuiet
import Derived.Deep.QuietTactic
import Derived.OpenShut
import Derived.ChangeOld
import Derived.Shelf.Abstract
import Derived.Shelf.GgClosure.Gives

/- Contracts of the laws' helpers on slices of integers: toIntS copies, eqIntS compares, markIntS writes running numbers, heldIntS finds them again. -/
namespace Go.Proofs.Ytcmmklcampmkjaa
open Go.ChangeShapes Go.WideShapes Go.ChangeAt Go.RowKit
set_option linter.unusedVariables false

theorem Try.info3 : (Try.prog.info? 3).map (fun i => (i.zero, i.size, i.bytes)) = some (some (.int .i64 0), 1, 8) := by kernel_rfl

set_option maxHeartbeats 400000 in
theorem toIntS_any (v : Value) (zs : List Int) (lo hi : Nat) (w : World) (h : IntS w lo hi v zs) (hhi : hi ≤ w.heap.size) (hn : zs.length ≤ 16777216) :
    Calls Try.prog 14 #[v] w fun e w' => ∃ r, e = .returned r ∧ IntS w' w.heap.size w'.heap.size r zs ∧ Below w.heap.size w w' := by
  obtain ⟨A, c, rfl, hc1, hc2, hcell⟩ := h.form
  have hmk := fun W => run_make_row' (P := Try.prog) 23 3 (.int .i64 0) 8 Try.underlying23 Try.info3 rfl .i64 .i64 zs.length (by omega) (by omega) W
  go_enter Try.func14, Try.ntmps14
  go_wp2
  go_loopw [4] (fun i wr => ∃ k : Nat, k ≤ zs.length ∧ i = .int .i64 k ∧ wr.rowIs w.heap.size 3 zs.length (fun j => .int .i64 (if j < k then nth zs j else 0)) ∧ Below w.heap.size w wr) (fun i _ => zs.length - (intOf i).toNat)
  case atStart => exact ⟨0, Nat.zero_le _, rfl, (World.rowIs_made w (.int .i64 0) zs.length 3).congr (fun i _ => by simp), (Below.refl _ _).alloc (Nat.le_refl _) _⟩
  case round =>
    obtain ⟨k, hk, rfl, hrow, hb⟩ := hrel
    by_cases hlt : k < zs.length
    · obtain ⟨b, off, rfl, hb1, hb2, hcs⟩ := hcell (by omega)
      have hck : wr.cell? ⟨b, off + k, none⟩ = some (.int .i64 (nth zs k)) := (hb.cell (p := ⟨b, off + k, none⟩) (by show b < _; omega)).trans (hcs k hlt).1
      have hoc := hrow.cell hlt
      have hof := hrow.frozen k
      clear hcs hmk
      go_wp2
      go_roundw
      case rel =>
        refine ⟨k + 1, by omega, by go_num, ?_, hb.setCell (by simp) _⟩
        refine (hrow.set k (.int .i64 (nth zs k))).congr fun j hj => ?_
        by_cases e : j = k
        · subst e; simp
        · simp only [if_neg e]
          by_cases e2 : j < k
          · rw [if_pos e2, if_pos (by omega)]
          · rw [if_neg e2, if_neg (by omega)]
      case measure => simp [intOf]; omega
    · obtain rfl : k = zs.length := by omega
      clear hmk
      go_wp2
      go_ret
      refine ⟨_, rfl, ?_, hb⟩
      exact (Sl.of_row hrow (Nat.le_refl _) (by omega) (Nat.le_refl _) (by unfold maxLen; omega)).congr fun j hj => by simp only [Nat.mul_one] at hj; rw [if_pos hj]

/-- eqIntS compares two lists -/
def eqI (xs ys : List Int) : Bool := decide (xs = ys)

set_option maxHeartbeats 400000 in
theorem eqIntS_any (v1 v2 : Value) (xs ys : List Int) (lo1 hi1 lo2 hi2 : Nat) (w : World) (h1 : IntS w lo1 hi1 v1 xs) (h2 : IntS w lo2 hi2 v2 ys) :
    Calls Try.prog 16 #[v1, v2] w fun e w' => e = .returned (.bool (eqI xs ys)) ∧ ∃ n, w' = w.drewN n := by
  obtain ⟨A, c, rfl, hc1, hc2, hcell⟩ := h1.form
  obtain ⟨A2, c2, rfl, hd1, hd2, hcell2⟩ := h2.form
  unfold maxLen at hc2 hd2
  by_cases hl : xs.length = ys.length
  · have hl' : ((xs.length : Int) != (ys.length : Int)) = false := by simp [hl]
    have HL := Lib.hid hl
    have hl1 : xs.length ≤ ys.length := by omega
    clear hl
    go_enter Try.func16, Try.ntmps16
    go_wp2
    go_loopw [5] (fun i wr => ∃ k n : Nat, k ≤ xs.length ∧ i = .int .i64 k ∧ wr = w.drewN n ∧ Hid (∀ j, j < k → nth xs j = nth ys j)) (fun i _ => xs.length - (intOf i).toNat)
    case atStart => exact ⟨0, 0, Nat.zero_le _, rfl, rfl, Lib.hid fun j hj => absurd hj (by omega)⟩
    case round =>
      obtain ⟨k, n, hk, rfl, rfl, HE⟩ := hrel
      by_cases hlt : k < xs.length
      · obtain ⟨b, off, rfl, hb1, hb2, hcs⟩ := hcell (by omega)
        obtain ⟨b', off', rfl, hb1', hb2', hcs'⟩ := hcell2 (by omega)
        have hck := (hcs k hlt).1
        have hck' := (hcs' k (by omega)).1
        have hlt2 : k < ys.length := by omega
        clear hcs hcs' hcell hcell2
        by_cases he : nth xs k = nth ys k
        · have he' : (nth xs k != nth ys k) = false := by simp [he]
          have HE2 := Lib.hid he
          clear he
          go_wp2
          go_quiet (fail)
          go_wp2
          go_roundw
          case rel =>
            refine ⟨k + 1, _, by omega, by go_num, rfl, Lib.hid fun j hj => ?_⟩
            by_cases e : j = k
            · subst e; exact HE2.out
            · exact HE.out j (by omega)
          case measure => simp [intOf]; omega
        · have he' : (nth xs k != nth ys k) = true := by simp [he]
          have HE2 := Lib.hid he
          clear he
          go_wp2
          go_quiet (fail)
          go_wp2
          go_ret
          exact ⟨ret_bool (by simp only [eqI]; symm; rw [decide_eq_false_iff_not]; rintro rfl; exact HE2.out rfl), n + nq, World.drewN_drewN _ _ _⟩
      · obtain rfl : k = xs.length := by omega
        go_wp2
        go_ret
        exact ⟨ret_bool (by simp only [eqI]; symm; rw [decide_eq_true_iff]; exact ext_nth HL.out HE.out), _, rfl⟩
  · have hl' : ((xs.length : Int) != (ys.length : Int)) = true := by simp; omega
    go_enter Try.func16, Try.ntmps16
    go_wp2
    go_ret
    exact ⟨ret_bool (by simp [eqI]; rintro rfl; exact hl rfl), 0, rfl⟩

theorem eqIntS_same (v1 v2 : Value) (xs : List Int) (lo1 hi1 lo2 hi2 : Nat) (w : World) (h1 : IntS w lo1 hi1 v1 xs) (h2 : IntS w lo2 hi2 v2 xs) (hh1 : hi1 ≤ w.heap.size) (hh2 : hi2 ≤ w.heap.size) :
    Calls Try.prog 16 #[v1, v2] w fun e w' => e = .returned (.bool true) ∧ Below w.heap.size w w' :=
  (eqIntS_any v1 v2 xs xs lo1 hi1 lo2 hi2 w h1 h2).mono fun e w' ⟨h, n, h'⟩ => ⟨by rw [h]; simp [eqI], by rw [h']; exact below_drewN (Below.refl _ _) _⟩

/-- the numbers that mark leaves: k, k+1, .. -/
def run (k : Int) : Nat → List Int
  | 0 => []
  | n + 1 => k :: run (k + 1) n
theorem run_length (k : Int) (n : Nat) : (run k n).length = n := by induction n generalizing k with | zero => rfl | succ n ih => simp [run, ih]
theorem nth_run (k : Int) (n j : Nat) (h : j < n) : nth (run k n) j = k + j := by
  induction n generalizing k j with
  | zero => omega
  | succ n ih =>
    cases j with
    | zero => simp [run, nth_cons_zero]
    | succ j => rw [run, nth_cons_succ, ih (k + 1) j (by omega)]; omega

set_option maxHeartbeats 400000 in
theorem markIntS_any (v : Value) (zs : List Int) (k : Int) (lo hi : Nat) (w : World) (h : IntS w lo hi v zs) (hhi : hi ≤ w.heap.size) (hk0 : 0 ≤ k) (hk1 : k ≤ 1152921504606846976) (hn : zs.length ≤ 1152921504606846976) :
    Calls Try.prog 18 #[v, .int .i64 k] w fun e w' => e = .returned (.int .i64 (k + zs.length)) ∧ IntS w' lo hi v (run k zs.length) ∧ w.grownBy w' (rowOf zs.length v) ∧ w'.heap.size = w.heap.size := by
  obtain ⟨A, c, rfl, hc1, hc2, hcell⟩ := h.form
  go_enter Try.func18, Try.ntmps18
  go_wp2
  go_loopw [5, 1] (fun i kv wr => ∃ m : Nat, m ≤ zs.length ∧ i = .int .i64 m ∧ kv = .int .i64 (k + m) ∧ Sl wr lo hi 1 (.slice A zs.length c) zs.length (fun j => .int .i64 (if j < m then k + j else nth zs j)) ∧ w.grownBy wr (rowOf zs.length (.slice A zs.length c)) ∧ Hid (wr.heap.size = w.heap.size)) (fun i _ _ => zs.length - (intOf i).toNat)
  case atStart => exact ⟨0, Nat.zero_le _, rfl, by simp, Sl.congr h fun j _ => by simp, World.grownBy.refl _ _, Lib.hid rfl⟩
  case round =>
    obtain ⟨m, hm, rfl, rfl, hs, ht, HS⟩ := hrel
    by_cases hlt : m < zs.length
    · obtain ⟨b, off, rfl, hb1, hb2, hcs⟩ := hcell (by omega)
      obtain ⟨hck, hfk⟩ := hs.at_ (j := m) (by omega)
      rw [rowOf_some (by omega)] at ht
      clear hcs hcell
      go_wp2
      go_roundw
      case rel =>
        refine ⟨m + 1, by omega, by go_num, by go_num, ?_, by rw [rowOf_some (by omega)]; exact grownBy_setCell ht rfl _, Lib.hid (by simpa [World.setCell] using HS.out)⟩
        refine (hs.set (j := m) (by omega) (.int .i64 (k + m))).congr fun j hj => ?_
        by_cases e : j = m
        · subst e; simp
        · simp only [if_neg e]
          by_cases e2 : j < m
          · rw [if_pos e2, if_pos (by omega)]
          · rw [if_neg e2, if_neg (by omega)]
      case measure => simp [intOf]; omega
    · obtain rfl : m = zs.length := by omega
      go_wp2
      go_ret
      refine ⟨rfl, ?_, ht, HS.out⟩
      unfold IntS
      rw [run_length]
      exact hs.congr fun j hj => by rw [if_pos (by omega), nth_run _ _ _ (by omega)]

set_option maxHeartbeats 400000 in
/-- the numbers that mark left are found -/
theorem heldIntS_yes (v : Value) (zs : List Int) (k : Int) (lo hi : Nat) (w : World) (h : IntS w lo hi v (run k zs.length)) (hk0 : 0 ≤ k) (hk1 : k ≤ 1152921504606846976) (hn : zs.length ≤ 1152921504606846976) :
    Calls Try.prog 46 #[v, .int .i64 k] w fun e w' => e = .returned (.int .i64 (k + zs.length)) ∧ Below w.heap.size w w' := by
  generalize zs.length = n at *
  obtain ⟨A, c, rfl, hc1, hc2, hcell⟩ := h.form
  simp only [run_length] at *
  go_enter Try.func46, Try.ntmps46
  go_wp2
  go_loop [5, 1] (fun i kv => ∃ m : Nat, m ≤ n ∧ i = .int .i64 m ∧ kv = .int .i64 (k + m)) (fun i _ => n - (intOf i).toNat)
  case atStart => exact ⟨0, Nat.zero_le _, rfl, by simp⟩
  case round =>
    obtain ⟨m, hm, rfl, rfl⟩ := hrel
    by_cases hlt : m < n
    · obtain ⟨b, off, rfl, hb1, hb2, hcs⟩ := hcell (by omega)
      have hck := (hcs m hlt).1
      rw [nth_run _ _ _ hlt] at hck
      clear hcs hcell
      go_wp2
      go_round
      case rel => exact ⟨m + 1, by omega, by go_num, by go_num⟩
      case measure => simp [intOf]; omega
    · obtain rfl : m = n := by omega
      go_wp2
      go_ret
      exact ⟨rfl, Below.refl _ _⟩

end Go.Proofs.Ytcmmklcampmkjaa

/- How the arguments of a law read: a slice of integers that came in reads as a list. No condition on any program. -/
namespace Go.Proofs.Ytcmmklcampmkjaa
open Go.ChangeShapes Go.WideShapes Go.ChangeAt Go.RowKit
set_option linter.unusedVariables false

/-- an integer that an int can hold -/
def I64 (x : Int) : Prop := -9223372036854775808 ≤ x ∧ x ≤ 9223372036854775807
theorem I64.of_wf {x : Int} (h : (Lit.int .i64 x).wf = true) : I64 x := by simpa [I64, Lit.wf, IntKind.min, IntKind.max, IntKind.signed, IntKind.bits] using h

section
variable {H : Type} {enc : TypeId × Value → H} {P : Program} {W : World}
theorem open_IntS_trod {t e : TypeId} {fuel : Nat} {v : Value} {x : DataW H × List MemPlace} (ht : P.underlying t = some (.slice e)) (he : P.underlying e = some (.int .i64)) (hC : P.cellsOf e = 1)
    (h : DataW.trod enc P W 0 (fun _ => true) true fuel t [v] = some x) (hfz : W.noneFrozen x.2) :
    ∃ zs, IntS W 0 W.heap.size v zs ∧ ∀ z ∈ zs, I64 z := by
  rcases open_ints ht he hC h with ⟨hcs, _⟩ | ⟨a, l, c, zs, hcs, _, hl, hm, hz, rfl, hcell, hwz⟩
  · simp only [List.cons.injEq, and_true] at hcs
    subst hcs
    exact ⟨[], IntS.nil _ _ _, by simp⟩
  · simp only [List.cons.injEq, and_true] at hcs
    subst hcs
    simp only [if_true] at hz
    have hlen : (zs.take l).length = l := by rw [List.length_take]; omega
    refine ⟨zs.take l, ?_, fun z hz' => I64.of_wf (hwz z (List.mem_of_mem_take hz'))⟩
    refine ⟨some a, c, by rw [hlen], by omega, hm, fun hpos => ?_⟩
    obtain ⟨b, off, rfl, hc⟩ := ints_at hcell (by omega)
    refine ⟨b, off, rfl, Nat.zero_le _, World.block_lt_of_cell? W ⟨b, off + 0, none⟩ (hc 0 (by omega)), fun j hj => ?_⟩
    refine ⟨?_, ?_⟩
    · rw [hc j (by omega)]
      have : nth (zs.take l) j = zs.getD j 0 := by
        simp only [nth, List.getD_eq_getElem?_getD]
        rw [List.getElem?_take_of_lt (by omega)]
      show _ = some (Value.int .i64 (nth (zs.take l) j))
      rw [this]
    · refine hfz b (off + j) ?_
      simp only [MemPlace.row, List.mem_map, List.mem_range]
      exact ⟨j, by omega, rfl⟩
theorem open_IntS {t e : TypeId} {r : Reach} {b0 : Nat} {v : Value} {d : DataW H} {p : List MemPlace} (ht : P.underlying t = some (.slice e)) (he : P.underlying e = some (.int .i64)) (hC : P.cellsOf e = 1)
    (hv : Value.okWide P W r b0 t v) (h : DataW.Trod enc P W 0 (fun _ => true) true t v d p) (hfz : W.noneFrozen p) :
    ∃ zs, IntS W 0 W.heap.size v zs ∧ ∀ z ∈ zs, I64 z := by
  obtain ⟨a, l, c, rfl⟩ := okWide_slice ht hv
  obtain ⟨fuel, hf⟩ := h
  exact open_IntS_trod ht he hC (by simpa [Value.cells] using hf) hfz
end

end Go.Proofs.Ytcmmklcampmkjaa

/- Contracts of small functions of the program and of the reference on numbers and on lists of numbers. -/
namespace Go.Proofs.Ytcmmklcampmkjaa
open Go.ChangeShapes Go.WideShapes Go.ChangeAt Go.RowKit
set_option linter.unusedVariables false

def inB (n lo hi : Int) : Bool := decide (lo ≤ n) && decide (n ≤ hi)
theorem inB_true {n lo hi : Int} (h1 : lo ≤ n) (h2 : n ≤ hi) : inB n lo hi = true := by simp [inB, h1, h2]
theorem inB_low {n lo hi : Int} (h1 : n < lo) : inB n lo hi = false := by simp [inB]; omega
theorem inB_high {n lo hi : Int} (h1 : hi < n) : inB n lo hi = false := by simp [inB]; omega
theorem inB_le {n lo hi : Int} (h : inB n lo hi = true) : lo ≤ n ∧ n ≤ hi := by simpa [inB] using h
theorem within_any (n lo hi : Int) (w : World) :
    Calls Try.prog 76 #[.int .i64 n, .int .i64 lo, .int .i64 hi] w fun e w' => e = .returned (.bool (inB n lo hi)) ∧ w = w' := by
  by_cases h1 : lo ≤ n
  · go_enter Try.func76, Try.ntmps76
    go_wp2
    go_ret
    exact ⟨by simp [inB, h1], rfl⟩
  · have h1' : n < lo := by omega
    go_enter Try.func76, Try.ntmps76
    go_wp2
    go_ret
    exact ⟨ret_bool (inB_low h1').symm, rfl⟩

theorem l1In_any (n lo hi : Int) (w : World) :
    Calls Try.prog 70 #[.int .i64 n, .int .i64 lo, .int .i64 hi] w fun e w' => e = .returned (.bool (inB n lo hi)) ∧ w = w' := by
  by_cases h1 : lo ≤ n
  · go_enter Try.func70, Try.ntmps70
    go_wp2
    go_ret
    exact ⟨by simp [inB, h1], rfl⟩
  · have h1' : n < lo := by omega
    go_enter Try.func70, Try.ntmps70
    go_wp2
    go_ret
    exact ⟨ret_bool (inB_low h1').symm, rfl⟩

theorem below_a2' (w : World) (o o2 : Obj) : Below w.heap.size w ((w.alloc o).alloc o2) := ((Below.refl _ _).alloc (Nat.le_refl _) o).alloc (by simp) _

/-- a property of all elements before k -/
def Upto (zs : List Int) (k : Nat) (p : Int → Bool) : Prop := ∀ j, j < k → p (nth zs j) = true
theorem Upto.zero (zs : List Int) (p : Int → Bool) : Upto zs 0 p := fun j hj => absurd hj (by omega)
theorem Upto.succ {zs : List Int} {k : Nat} {p : Int → Bool} (h : Upto zs k p) (hk : p (nth zs k) = true) : Upto zs (k + 1) p := fun j hj => by
  by_cases e : j = k
  · rw [e]; exact hk
  · exact h j (by omega)
theorem Upto.all {zs : List Int} {p : Int → Bool} (h : Upto zs zs.length p) : zs.all p = true := by
  rw [List.all_eq_true]
  intro x hx
  obtain ⟨j, hj, e⟩ := List.mem_iff_getElem.1 hx
  have := h j hj
  rwa [nth_eq hj, e] at this
theorem all_false {zs : List Int} {k : Nat} {p : Int → Bool} (hk : k < zs.length) (h : p (nth zs k) = false) : zs.all p = false := by
  rw [Bool.eq_false_iff]
  intro ha
  rw [List.all_eq_true] at ha
  have := ha _ (nth_mem hk)
  rw [h] at this
  cases this

set_option maxHeartbeats 400000 in
theorem l1Has_any (v : Value) (zs : List Int) (x : Int) (lo hi : Nat) (w : World) (h : IntS w lo hi v zs) :
    Calls Try.prog 51 #[v, .int .i64 x] w fun e w' => e = .returned (.bool (decide (x ∈ zs))) ∧ w = w' := by
  obtain ⟨A, c, rfl, hc1, hc2, hcell⟩ := h.form
  unfold maxLen at hc2
  go_enter Try.func51, Try.ntmps51
  go_wp2
  go_loop [9] (fun i => ∃ k : Nat, k ≤ zs.length ∧ i = .int .i64 k ∧ Hid (Upto zs k fun y => y != x)) (fun i => zs.length - (intOf i).toNat)
  case atStart => exact ⟨0, Nat.zero_le _, rfl, Lib.hid (Upto.zero _ _)⟩
  case round =>
    obtain ⟨k, hk, rfl, HU⟩ := hrel
    by_cases hlt : k < zs.length
    · obtain ⟨b, off, rfl, hb1, hb2, hcs⟩ := hcell (by omega)
      have hck := (hcs k hlt).1
      clear hcs hcell
      by_cases he : nth zs k = x
      · have he' : (nth zs k == x) = true := by simpa using he
        have HE := Lib.hid he
        clear he
        go_wp2
        go_ret
        exact ⟨ret_bool (by symm; rw [decide_eq_true_iff, ← HE.out]; exact nth_mem hlt), rfl⟩
      · have he' : (nth zs k == x) = false := by simpa using he
        have HE := Lib.hid he
        clear he
        go_wp2
        go_round
        case rel => exact ⟨k + 1, by omega, by go_num, Lib.hid (HU.out.succ (by simpa using HE.out))⟩
        case measure => simp [intOf]; omega
    · obtain rfl : k = zs.length := by omega
      go_wp2
      go_ret
      refine ⟨ret_bool ?_, rfl⟩
      symm
      rw [decide_eq_false_iff_not]
      intro hm
      have := HU.out.all
      rw [List.all_eq_true] at this
      have := this _ hm
      simp at this

set_option maxHeartbeats 400000 in
theorem l1All_any (v : Value) (zs : List Int) (a b : Int) (lo hi : Nat) (w : World) (h : IntS w lo hi v zs) :
    Calls Try.prog 53 #[v, .int .i64 a, .int .i64 b] w fun e w' => e = .returned (.bool (zs.all fun x => inB x a b)) ∧ w = w' := by
  obtain ⟨A, c, rfl, hc1, hc2, hcell⟩ := h.form
  unfold maxLen at hc2
  go_enter Try.func53, Try.ntmps53
  go_wp2
  go_loop [11] (fun i => ∃ k : Nat, k ≤ zs.length ∧ i = .int .i64 k ∧ Hid (Upto zs k fun x => inB x a b)) (fun i => zs.length - (intOf i).toNat)
  case atStart => exact ⟨0, Nat.zero_le _, rfl, Lib.hid (Upto.zero _ _)⟩
  case round =>
    obtain ⟨k, hk, rfl, HU⟩ := hrel
    by_cases hlt : k < zs.length
    · obtain ⟨b', off, rfl, hb1, hb2, hcs⟩ := hcell (by omega)
      have hck := (hcs k hlt).1
      clear hcs hcell
      by_cases he : inB (nth zs k) a b = true
      · go_wp2_with (go_at_call 70; refine (l1In_any _ _ _ _).mono ?_; rintro e w' ⟨rfl, rfl⟩)
        go_round
        case rel => exact ⟨k + 1, by omega, by go_num, Lib.hid (HU.out.succ he)⟩
        case measure => simp [intOf]; omega
      · have he' : inB (nth zs k) a b = false := by simpa using he
        clear he
        go_wp2_with (go_at_call 70; refine (l1In_any _ _ _ _).mono ?_; rintro e w' ⟨rfl, rfl⟩)
        go_ret
        exact ⟨ret_bool (all_false hlt he').symm, rfl⟩
    · obtain rfl : k = zs.length := by omega
      go_wp2
      go_ret
      exact ⟨ret_bool HU.out.all.symm, rfl⟩

/-- strictly increasing numbers within bounds -/
def risingAt (zs : List Int) (a b : Int) (k : Nat) : Bool := inB (nth zs k) a b && (k == 0 || decide (nth zs (k - 1) < nth zs k))
def rising (zs : List Int) (a b : Int) : Bool := (List.range zs.length).all (risingAt zs a b)
theorem rising_true {zs : List Int} {a b : Int} (h : ∀ j, j < zs.length → risingAt zs a b j = true) : rising zs a b = true := by
  unfold rising; rw [List.all_eq_true]; intro j hj; exact h j (List.mem_range.1 hj)
theorem rising_false {zs : List Int} {a b : Int} {k : Nat} (hk : k < zs.length) (h : risingAt zs a b k = false) : rising zs a b = false := by
  rw [Bool.eq_false_iff]; intro ha; unfold rising at ha; rw [List.all_eq_true] at ha
  have := ha k (List.mem_range.2 hk); rw [h] at this; cases this

set_option maxHeartbeats 1000000 in
theorem increasing_any (v : Value) (zs : List Int) (a b : Int) (lo hi : Nat) (w : World) (h : IntS w lo hi v zs) :
    Calls Try.prog 91 #[v, .int .i64 a, .int .i64 b] w fun e w' => e = .returned (.bool (rising zs a b)) ∧ w = w' := by
  obtain ⟨A, c, rfl, hc1, hc2, hcell⟩ := h.form
  unfold maxLen at hc2
  go_enter Try.func91, Try.ntmps91
  go_wp2
  go_loop [11] (fun i => ∃ k : Nat, k ≤ zs.length ∧ i = .int .i64 k ∧ Hid (∀ j, j < k → risingAt zs a b j = true)) (fun i => zs.length - (intOf i).toNat)
  case atStart => exact ⟨0, Nat.zero_le _, rfl, Lib.hid fun j hj => absurd hj (by omega)⟩
  case round =>
    obtain ⟨k, hk, rfl, HU⟩ := hrel
    have hnext : ∀ j, j < k → risingAt zs a b j = true := HU.out
    have step : risingAt zs a b k = true → ∀ j, j < k + 1 → risingAt zs a b j = true := fun h j hj => by
      by_cases e : j = k
      · rw [e]; exact h
      · exact hnext j (by omega)
    have ST := Lib.hid step
    clear step hnext
    by_cases hlt : k < zs.length
    · obtain ⟨b', off, rfl, hb1, hb2, hcs⟩ := hcell (by omega)
      have hck := (hcs k hlt).1
      have hcp := fun hp : 0 < k => (hcs (k - 1) (by omega)).1
      clear hcs hcell
      by_cases he : inB (nth zs k) a b = true
      · by_cases h0 : k = 0
        · subst h0
          rw [Nat.add_zero] at hck
          go_wp2_with (go_at_call 76; refine (within_any _ _ _ _).mono ?_; rintro e w' ⟨rfl, rfl⟩)
          go_round
          case rel => exact ⟨0 + 1, by omega, by go_num, Lib.hid (ST.out (by simp [risingAt, he]))⟩
          case measure => simp [intOf]; omega
        · have hp := hcp (by omega)
          have hpos : (0 : Int) < k := by omega
          clear hcp
          by_cases hs : nth zs (k - 1) < nth zs k
          · have hs' : ¬ nth zs k ≤ nth zs (k - 1) := by omega
            go_wp2_with (go_at_call 76; refine (within_any _ _ _ _).mono ?_; rintro e w' ⟨rfl, rfl⟩)
            go_round
            case rel => exact ⟨k + 1, by omega, by go_num, Lib.hid (ST.out (by simp [risingAt, he, hs]))⟩
            case measure => simp [intOf]; omega
          · have hs' : nth zs k ≤ nth zs (k - 1) := by omega
            go_wp2_with (go_at_call 76; refine (within_any _ _ _ _).mono ?_; rintro e w' ⟨rfl, rfl⟩)
            go_ret
            exact ⟨ret_bool (rising_false hlt (by simp [risingAt, h0]; omega)).symm, rfl⟩
      · have he' : inB (nth zs k) a b = false := by simpa using he
        clear he hcp
        go_wp2_with (go_at_call 76; refine (within_any _ _ _ _).mono ?_; rintro e w' ⟨rfl, rfl⟩)
        go_ret
        exact ⟨ret_bool (rising_false hlt (by simp [risingAt, he'])).symm, rfl⟩
    · obtain rfl : k = zs.length := by omega
      go_wp2
      go_ret
      exact ⟨ret_bool (rising_true HU.out).symm, rfl⟩

/-- identifiers, as the reference looks at them -/
def idAt (zs : List Int) (k : Nat) : Bool := inB (nth zs k) 1 999999 && !decide (nth zs k ∈ zs.take k)
def idsGood (zs : List Int) (n : Int) : Bool := (List.range zs.length).all (idAt zs) && (decide (zs.length = 0) || decide ((zs.length : Int) = n))
theorem idsGood_bad {zs : List Int} {n : Int} {k : Nat} (hk : k < zs.length) (h : idAt zs k = false) : idsGood zs n = false := by
  have : (List.range zs.length).all (idAt zs) = false := by
    rw [Bool.eq_false_iff]; intro ha; rw [List.all_eq_true] at ha
    have := ha k (List.mem_range.2 hk); rw [h] at this; cases this
  simp [idsGood, this]
theorem idsGood_ok {zs : List Int} {n : Int} (h : ∀ j, j < zs.length → idAt zs j = true) : idsGood zs n = (decide (zs.length = 0) || decide ((zs.length : Int) = n)) := by
  have : (List.range zs.length).all (idAt zs) = true := by rw [List.all_eq_true]; intro j hj; exact h j (List.mem_range.1 hj)
  simp [idsGood, this]

/-- the first k elements of a slice -/
theorem IntS.take {w : World} {lo hi : Nat} {A : Option Addr} {c : Nat} {zs : List Int} (h : IntS w lo hi (.slice A zs.length c) zs) (k : Nat) (hk : k ≤ zs.length) : IntS w lo hi (.slice A k c) (zs.take k) := by
  obtain ⟨A', c', e, h1, h2, h3⟩ := h.form
  injection e with e1 e2 e3
  subst e1 e3
  have hl : (zs.take k).length = k := List.length_take_of_le hk
  refine ⟨A, c, by rw [hl], by rw [hl]; omega, h2, fun hn => ?_⟩
  rw [hl] at hn
  obtain ⟨b, off, e4, h4, h5, h6⟩ := h3 (by omega)
  refine ⟨b, off, e4, h4, h5, fun j hj => ?_⟩
  rw [hl] at hj
  have : nth (zs.take k) j = nth zs j := by simp only [nth, List.getD_eq_getElem?_getD]; rw [List.getElem?_take_of_lt (by omega)]
  show w.cell? _ = some (Value.int .i64 (nth (zs.take k) j)) ∧ _
  rw [this]
  exact h6 j (by omega)

set_option maxHeartbeats 1000000 in
theorem neIds_any (v : Value) (zs : List Int) (n : Int) (lo hi : Nat) (w : World) (h : IntS w lo hi v zs) :
    Calls Try.prog 71 #[v, .int .i64 n] w fun e w' => e = .returned (.bool (idsGood zs n)) ∧ w = w' := by
  obtain ⟨A, c, rfl, hc1, hc2, hcell⟩ := h.form
  unfold maxLen at hc2
  have HH := Lib.hid h
  clear h
  go_enter Try.func71, Try.ntmps71
  go_wp2
  go_loop [9] (fun i => ∃ k : Nat, k ≤ zs.length ∧ i = .int .i64 k ∧ Hid (∀ j, j < k → idAt zs j = true)) (fun i => zs.length - (intOf i).toNat)
  case atStart => exact ⟨0, Nat.zero_le _, rfl, Lib.hid fun j hj => absurd hj (by omega)⟩
  case round =>
    obtain ⟨k, hk, rfl, HU⟩ := hrel
    by_cases hlt : k < zs.length
    · obtain ⟨b', off, rfl, hb1, hb2, hcs⟩ := hcell (by omega)
      have hck := (hcs k hlt).1
      have HT := Lib.hid (HH.out.take k hk)
      clear hcs hcell
      by_cases he : inB (nth zs k) 1 999999 = true
      · by_cases hm : nth zs k ∈ zs.take k
        · have hm' : decide (nth zs k ∈ zs.take k) = true := decide_eq_true hm
          have HM := Lib.hid hm'
          clear hm hm'
          go_wp2_with (first
            | (go_at_call 70; refine (l1In_any _ _ _ _).mono ?_; rintro e w' ⟨rfl, rfl⟩)
            | (go_at_call 51; refine (l1Has_any _ (zs.take k) _ lo hi _ HT.out).mono ?_; rintro e w' ⟨rfl, rfl⟩; rw [HM.out]))
          go_ret
          exact ⟨ret_bool (idsGood_bad hlt (by unfold idAt; rw [HM.out]; simp)).symm, rfl⟩
        · have hm' : decide (nth zs k ∈ zs.take k) = false := decide_eq_false hm
          have HM := Lib.hid hm'
          clear hm hm'
          go_wp2_with (first
            | (go_at_call 70; refine (l1In_any _ _ _ _).mono ?_; rintro e w' ⟨rfl, rfl⟩)
            | (go_at_call 51; refine (l1Has_any _ (zs.take k) _ lo hi _ HT.out).mono ?_; rintro e w' ⟨rfl, rfl⟩; rw [HM.out]))
          go_round
          case rel =>
            refine ⟨k + 1, by omega, by go_num, Lib.hid fun j hj => ?_⟩
            by_cases e : j = k
            · subst e; unfold idAt; rw [HM.out, he]; rfl
            · exact HU.out j (by omega)
          case measure => simp [intOf]; omega
      · have he' : inB (nth zs k) 1 999999 = false := by simpa using he
        clear he
        go_wp2_with (go_at_call 70; refine (l1In_any _ _ _ _).mono ?_; rintro e w' ⟨rfl, rfl⟩)
        go_ret
        exact ⟨ret_bool (idsGood_bad hlt (by unfold idAt; rw [he']; simp)).symm, rfl⟩
    · obtain rfl : k = zs.length := by omega
      by_cases h0 : zs.length = 0
      · have h0' : ((zs.length : Int) == 0) = true := by simp [h0]
        have H0 := Lib.hid h0
        clear h0
        go_wp2
        go_ret
        exact ⟨ret_bool (by rw [idsGood_ok HU.out]; simp [H0.out]), rfl⟩
      · have h0' : ((zs.length : Int) == 0) = false := by rw [beq_eq_false_iff_ne]; omega
        go_wp2
        go_ret
        refine ⟨ret_bool ?_, rfl⟩
        rw [idsGood_ok HU.out, decide_eq_false h0, Bool.false_or]
        by_cases e : (zs.length : Int) = n <;> simp [e]

/-- the place of the first number that a predicate takes, or -1 -/
def fidx (p : Int → Bool) (zs : List Int) : Int := if zs.any p then (zs.findIdx p : Int) else -1
theorem fidx_hit {p : Int → Bool} {zs : List Int} {k : Nat} (hk : k < zs.length) (h : p (nth zs k) = true) (hb : ∀ j, j < k → p (nth zs j) = false) : fidx p zs = k := by
  have ha : zs.any p = true := List.any_eq_true.2 ⟨_, nth_mem hk, h⟩
  unfold fidx
  rw [if_pos ha]
  have : zs.findIdx p = k := by
    rw [List.findIdx_eq hk]
    refine ⟨by rw [← nth_eq hk]; exact h, fun j hj => ?_⟩
    have := hb j hj
    rw [nth_eq (by omega)] at this
    simpa using this
  rw [this]
theorem fidx_none {p : Int → Bool} {zs : List Int} (h : ∀ j, j < zs.length → p (nth zs j) = false) : fidx p zs = -1 := by
  unfold fidx
  rw [if_neg]
  intro ha
  obtain ⟨x, hx, hp⟩ := List.any_eq_true.1 ha
  obtain ⟨j, hj, e⟩ := List.mem_iff_getElem.1 hx
  have := h j hj
  rw [nth_eq hj, e, hp] at this
  cases this
theorem fidx_any (p : Int → Bool) (zs : List Int) : decide (0 ≤ fidx p zs) = zs.any p := by
  unfold fidx
  split
  · rename_i h; rw [h]; simp
  · rename_i h; rw [Bool.not_eq_true] at h; rw [h]; rfl

set_option maxHeartbeats 1000000 in
theorem IndexFunc_int (f : Nat) (caps : Array Value) (eg : ∀ args w, (callFunc f args).run Try.prog w = .ok (.enter f args) w) (p : Int → Bool) (v : Value) (zs : List Int) (lo hi : Nat) (w : World) (h : IntS w lo hi v zs) (hhi : hi ≤ w.heap.size)
    (hp : ∀ x ∈ zs, ∀ W, Below w.heap.size w W → Calls Try.prog f (#[.int .i64 x] ++ caps) W fun e w' => e = .returned (.bool (p x)) ∧ Below W.heap.size W w') :
    Calls Try.prog 106 #[v, .func (.func f) #[] caps] w fun e w' => e = .returned (.int .i64 (fidx p zs)) ∧ Below w.heap.size w w' := by
  obtain ⟨A, c, rfl, hc1, hc2, hcell⟩ := h.form
  unfold maxLen at hc2
  have HP := Lib.hid hp
  clear hp
  go_enter Try.func106, Try.ntmps106
  go_wp2
  go_loopw [8] (fun i wr => ∃ k : Nat, k ≤ zs.length ∧ i = .int .i64 k ∧ Hid (∀ j, j < k → p (nth zs j) = false) ∧ Below w.heap.size w wr) (fun i _ => zs.length - (intOf i).toNat)
  case atStart => exact ⟨0, Nat.zero_le _, rfl, Lib.hid fun j hj => absurd hj (by omega), Below.refl _ _⟩
  case round =>
    obtain ⟨k, hk, rfl, HU, hb⟩ := hrel
    have hs0 := hb.size
    by_cases hlt : k < zs.length
    · obtain ⟨b, off, rfl, hb1, hb2, hcs⟩ := hcell (by omega)
      have hck := (hb.cell (p := ⟨b, off + k, none⟩) (by show b < _; omega)).trans (hcs k hlt).1
      clear hcs hcell
      cases hq : p (nth zs k) with
      | true =>
        have HC := Lib.hid (HP.out _ (nth_mem hlt) wr hb)
        rw [hq] at HC
        have HQ := Lib.hid hq
        clear hq
        go_wp2_with (go_at_fn f; refine HC.out.mono ?_; rintro e w' ⟨rfl, hb'⟩)
        go_ret
        exact ⟨ret_int (fidx_hit hlt HQ.out HU.out).symm, hb.trans (hb'.mono hs0)⟩
      | false =>
        have HC := Lib.hid (HP.out _ (nth_mem hlt) wr hb)
        rw [hq] at HC
        have HQ := Lib.hid hq
        clear hq
        go_wp2_with (go_at_fn f; refine HC.out.mono ?_; rintro e w' ⟨rfl, hb'⟩)
        go_roundw
        case rel =>
          refine ⟨k + 1, by omega, by go_num, Lib.hid fun j hj => ?_, hb.trans (hb'.mono hs0)⟩
          by_cases e : j = k
          · rw [e]; exact HQ.out
          · exact HU.out j (by omega)
        case measure => simp [intOf]; omega
    · obtain rfl : k = zs.length := by omega
      go_wp2
      go_ret
      exact ⟨ret_int (fidx_none HU.out).symm, hb⟩

theorem ContainsFunc_int (f : Nat) (caps : Array Value) (eg : ∀ args w, (callFunc f args).run Try.prog w = .ok (.enter f args) w) (p : Int → Bool) (v : Value) (zs : List Int) (lo hi : Nat) (w : World) (h : IntS w lo hi v zs) (hhi : hi ≤ w.heap.size)
    (hp : ∀ x ∈ zs, ∀ W, Below w.heap.size w W → Calls Try.prog f (#[.int .i64 x] ++ caps) W fun e w' => e = .returned (.bool (p x)) ∧ Below W.heap.size W w') :
    Calls Try.prog 97 #[v, .func (.func f) #[] caps] w fun e w' => e = .returned (.bool (zs.any p)) ∧ Below w.heap.size w w' := by
  have HC := Lib.hid (IndexFunc_int f caps eg p v zs lo hi w h hhi hp)
  obtain ⟨A, c, rfl⟩ := h.shape
  clear hp h eg
  go_enter Try.func97, Try.ntmps97
  go_wp2_with (go_at_call 106; refine HC.out.mono ?_; rintro e w' ⟨rfl, hb'⟩)
  go_ret
  exact ⟨ret_bool (fidx_any p zs), hb'⟩

theorem not_any_not {α : Type} (p : α → Bool) (zs : List α) : (!zs.any fun x => !p x) = zs.all p := by
  induction zs with
  | nil => rfl
  | cons x l ih => rw [List.any_cons, List.all_cons, ← ih]; cases p x <;> simp

theorem allWithin_any (v : Value) (zs : List Int) (a b : Int) (lo hi : Nat) (w : World) (h : IntS w lo hi v zs) (hhi : hi ≤ w.heap.size) :
    Calls Try.prog 81 #[v, .int .i64 a, .int .i64 b] w fun e w' => e = .returned (.bool (zs.all fun x => inB x a b)) ∧ Below w.heap.size w w' := by
  have hb0 := below_a2' w (.cells #[.int .i64 a] 3) (.cells #[.int .i64 b] 3)
  have hcl : ∀ x ∈ zs, ∀ W, Below ((w.alloc (.cells #[.int .i64 a] 3)).alloc (.cells #[.int .i64 b] 3)).heap.size ((w.alloc (.cells #[.int .i64 a] 3)).alloc (.cells #[.int .i64 b] 3)) W →
      Calls Try.prog 99 (#[.int .i64 x] ++ #[.pointer (some ⟨w.heap.size, 0, none⟩), .pointer (some ⟨w.heap.size + 1, 0, none⟩)]) W fun e w' => e = .returned (.bool (!inB x a b)) ∧ Below W.heap.size W w' := by
    intro x _ W hW
    have c0 : W.cell? ⟨w.heap.size, 0, none⟩ = some (.int .i64 a) := by
      rw [hW.cell (p := ⟨w.heap.size, 0, none⟩) (by simp; omega), World.cell?_alloc_past _ _ _ (by simp), World.cell?_alloc_at _ _ _ _ rfl]; rfl
    have c1 : W.cell? ⟨w.heap.size + 1, 0, none⟩ = some (.int .i64 b) := by
      rw [hW.cell (p := ⟨w.heap.size + 1, 0, none⟩) (by simp), World.cell?_alloc_at _ _ _ _ (by simp)]; rfl
    clear hW
    show Calls Try.prog 99 #[.int .i64 x, .pointer (some ⟨w.heap.size, 0, none⟩), .pointer (some ⟨w.heap.size + 1, 0, none⟩)] W _
    go_enter Try.func99, Try.ntmps99
    go_wp2_with (go_at_call 76; refine (within_any _ _ _ _).mono ?_; rintro e w' ⟨rfl, rfl⟩)
    go_ret
    exact ⟨rfl, Below.refl _ _⟩
  have HC := Lib.hid (ContainsFunc_int 99 _ (enters_of Try.func99 (by kernel_rfl) rfl) (fun x => !inB x a b) v zs lo hi _ (h.below hb0 hhi) (by simp; omega) hcl)
  obtain ⟨A, c, rfl⟩ := h.shape
  clear hcl h
  have hmf : ∀ (fn : Fn) (first cap : Array Value) (w : World), (Instr.makeFunc fn first cap).run Try.prog w = .ok (.func fn first cap) w := fun _ _ _ _ => rfl
  go_enter Try.func81, Try.ntmps81
  go_wp2_with (go_at_call 97; refine HC.out.mono ?_; rintro e w' ⟨rfl, hb'⟩)
  go_ret
  exact ⟨ret_bool (not_any_not _ _), hb0.trans (hb'.mono (by simp; omega))⟩

end Go.Proofs.Ytcmmklcampmkjaa
