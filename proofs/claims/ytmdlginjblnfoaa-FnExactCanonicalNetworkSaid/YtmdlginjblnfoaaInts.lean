/-
  Contracts of the laws' helpers on slices of integers: toIntS copies, eqIntS compares, markIntS writes running numbers, heldIntS finds them again.
-/
import Derived.Test.YtmdlginjblnfoaaRows
import Derived.Test.YtmdlginjblnfoaaMem
import Derived.WalkKit
import Derived.ProofKit
import Derived.Outline
import Derived.BigQuiet
import Derived.Deep.QuietTactic
namespace Go.Proofs.Ytmdlginjblnfoaa
open Go.ChangeShapes Go.WideShapes Go.ChangeAt Go.RowKit
set_option linter.unusedVariables false

theorem Try.info3 : (Try.prog.info? 3).map (fun i => (i.zero, i.size, i.bytes)) = some (some (.int .i64 0), 1, 8) := by kernel_rfl

set_option maxHeartbeats 400000 in
theorem toIntS_any (v : Value) (zs : List Int) (lo hi : Nat) (w : World) (h : IntS w lo hi v zs) (hhi : hi ≤ w.heap.size) (hn : zs.length ≤ 16777216) :
    Calls Try.prog 22 #[v] w fun e w' => ∃ r, e = .returned r ∧ IntS w' w.heap.size w'.heap.size r zs ∧ Below w.heap.size w w' := by
  obtain ⟨A, c, rfl, hc1, hc2, hcell⟩ := h.form
  have hmk := fun W => run_make_row' (P := Try.prog) 23 3 (.int .i64 0) 8 Try.underlying23 Try.info3 rfl .i64 .i64 zs.length (by omega) (by omega) W
  go_enter Try.func22, Try.ntmps22
  go_wp2
  go_loopw [4] (fun i wr => ∃ k : Nat, k ≤ zs.length ∧ i = .int .i64 k ∧ wr.rowIs w.heap.size 3 zs.length (fun j => .int .i64 (if j < k then nth zs j else 0)) ∧ Below w.heap.size w wr) (fun i _ => zs.length - (intOf i).toNat)
  case atStart => exact ⟨0, Nat.zero_le _, rfl, (World.rowIs_made w (.int .i64 0) zs.length 3).congr (fun i _ => by simp), (Below.refl _ _).alloc (Nat.le_refl _) _⟩
  case round =>
    obtain ⟨k, hk, rfl, hrow, hb⟩ := hrel
    by_cases hlt : k < zs.length
    · obtain ⟨b, off, rfl, hb1, hb2, hcs⟩ := hcell (by omega)
      have hck : wr.cell? ⟨b, off + k, none⟩ = some (.int .i64 (nth zs k)) := (hb.cell (p := ⟨b, off + k, none⟩) (by show b < _; omega)).trans (hcs k hlt).1
      have hoc := hrow.cell hlt
      have hof := hrow.frozen k
      clear hcs hmk
      go_wp2
      go_roundw
      case rel =>
        refine ⟨k + 1, by omega, by go_num, ?_, hb.setCell (by simp) _⟩
        refine (hrow.set k (.int .i64 (nth zs k))).congr fun j hj => ?_
        by_cases e : j = k
        · subst e; simp
        · simp only [if_neg e]
          by_cases e2 : j < k
          · rw [if_pos e2, if_pos (by omega)]
          · rw [if_neg e2, if_neg (by omega)]
      case measure => simp [intOf]; omega
    · obtain rfl : k = zs.length := by omega
      clear hmk
      go_wp2
      go_ret
      refine ⟨_, rfl, ?_, hb⟩
      exact (Sl.of_row hrow (Nat.le_refl _) (by omega) (Nat.le_refl _) (by unfold maxLen; omega)).congr fun j hj => by simp only [Nat.mul_one] at hj; rw [if_pos hj]

/-- eqIntS compares two lists -/
def eqI (xs ys : List Int) : Bool := decide (xs = ys)

set_option maxHeartbeats 400000 in
theorem eqIntS_any (v1 v2 : Value) (xs ys : List Int) (lo1 hi1 lo2 hi2 : Nat) (w : World) (h1 : IntS w lo1 hi1 v1 xs) (h2 : IntS w lo2 hi2 v2 ys) :
    Calls Try.prog 9 #[v1, v2] w fun e w' => e = .returned (.bool (eqI xs ys)) ∧ ∃ n, w' = w.drewN n := by
  obtain ⟨A, c, rfl, hc1, hc2, hcell⟩ := h1.form
  obtain ⟨A2, c2, rfl, hd1, hd2, hcell2⟩ := h2.form
  unfold maxLen at hc2 hd2
  by_cases hl : xs.length = ys.length
  · have hl' : ((xs.length : Int) != (ys.length : Int)) = false := by simp [hl]
    have HL := Lib.hid hl
    have hl1 : xs.length ≤ ys.length := by omega
    clear hl
    go_enter Try.func9, Try.ntmps9
    go_wp2
    go_loopw [5] (fun i wr => ∃ k n : Nat, k ≤ xs.length ∧ i = .int .i64 k ∧ wr = w.drewN n ∧ Hid (∀ j, j < k → nth xs j = nth ys j)) (fun i _ => xs.length - (intOf i).toNat)
    case atStart => exact ⟨0, 0, Nat.zero_le _, rfl, rfl, Lib.hid fun j hj => absurd hj (by omega)⟩
    case round =>
      obtain ⟨k, n, hk, rfl, rfl, HE⟩ := hrel
      by_cases hlt : k < xs.length
      · obtain ⟨b, off, rfl, hb1, hb2, hcs⟩ := hcell (by omega)
        obtain ⟨b', off', rfl, hb1', hb2', hcs'⟩ := hcell2 (by omega)
        have hck := (hcs k hlt).1
        have hck' := (hcs' k (by omega)).1
        have hlt2 : k < ys.length := by omega
        clear hcs hcs' hcell hcell2
        by_cases he : nth xs k = nth ys k
        · have he' : (nth xs k != nth ys k) = false := by simp [he]
          have HE2 := Lib.hid he
          clear he
          go_wp2
          go_quiet (fail)
          go_wp2
          go_roundw
          case rel =>
            refine ⟨k + 1, _, by omega, by go_num, rfl, Lib.hid fun j hj => ?_⟩
            by_cases e : j = k
            · subst e; exact HE2.out
            · exact HE.out j (by omega)
          case measure => simp [intOf]; omega
        · have he' : (nth xs k != nth ys k) = true := by simp [he]
          have HE2 := Lib.hid he
          clear he
          go_wp2
          go_quiet (fail)
          go_wp2
          go_ret
          exact ⟨ret_bool (by simp only [eqI]; symm; rw [decide_eq_false_iff_not]; rintro rfl; exact HE2.out rfl), n + nq, World.drewN_drewN _ _ _⟩
      · obtain rfl : k = xs.length := by omega
        go_wp2
        go_ret
        exact ⟨ret_bool (by simp only [eqI]; symm; rw [decide_eq_true_iff]; exact ext_nth HL.out HE.out), _, rfl⟩
  · have hl' : ((xs.length : Int) != (ys.length : Int)) = true := by simp; omega
    go_enter Try.func9, Try.ntmps9
    go_wp2
    go_ret
    exact ⟨ret_bool (by simp [eqI]; rintro rfl; exact hl rfl), 0, rfl⟩

theorem eqIntS_same (v1 v2 : Value) (xs : List Int) (lo1 hi1 lo2 hi2 : Nat) (w : World) (h1 : IntS w lo1 hi1 v1 xs) (h2 : IntS w lo2 hi2 v2 xs) (hh1 : hi1 ≤ w.heap.size) (hh2 : hi2 ≤ w.heap.size) :
    Calls Try.prog 9 #[v1, v2] w fun e w' => e = .returned (.bool true) ∧ Below w.heap.size w w' :=
  (eqIntS_any v1 v2 xs xs lo1 hi1 lo2 hi2 w h1 h2).mono fun e w' ⟨h, n, h'⟩ => ⟨by rw [h]; simp [eqI], by rw [h']; exact below_drewN (Below.refl _ _) _⟩

/-- the numbers that mark leaves: k, k+1, .. -/
def run (k : Int) : Nat → List Int
  | 0 => []
  | n + 1 => k :: run (k + 1) n
theorem run_length (k : Int) (n : Nat) : (run k n).length = n := by induction n generalizing k with | zero => rfl | succ n ih => simp [run, ih]
theorem nth_run (k : Int) (n j : Nat) (h : j < n) : nth (run k n) j = k + j := by
  induction n generalizing k j with
  | zero => omega
  | succ n ih =>
    cases j with
    | zero => simp [run, nth_cons_zero]
    | succ j => rw [run, nth_cons_succ, ih (k + 1) j (by omega)]; omega

set_option maxHeartbeats 400000 in
theorem markIntS_any (v : Value) (zs : List Int) (k : Int) (lo hi : Nat) (w : World) (h : IntS w lo hi v zs) (hhi : hi ≤ w.heap.size) (hk0 : 0 ≤ k) (hk1 : k ≤ 1152921504606846976) (hn : zs.length ≤ 1152921504606846976) :
    Calls Try.prog 12 #[v, .int .i64 k] w fun e w' => e = .returned (.int .i64 (k + zs.length)) ∧ IntS w' lo hi v (run k zs.length) ∧ w.grownBy w' (rowOf zs.length v) ∧ w'.heap.size = w.heap.size := by
  obtain ⟨A, c, rfl, hc1, hc2, hcell⟩ := h.form
  go_enter Try.func12, Try.ntmps12
  go_wp2
  go_loopw [5, 1] (fun i kv wr => ∃ m : Nat, m ≤ zs.length ∧ i = .int .i64 m ∧ kv = .int .i64 (k + m) ∧ Sl wr lo hi 1 (.slice A zs.length c) zs.length (fun j => .int .i64 (if j < m then k + j else nth zs j)) ∧ w.grownBy wr (rowOf zs.length (.slice A zs.length c)) ∧ Hid (wr.heap.size = w.heap.size)) (fun i _ _ => zs.length - (intOf i).toNat)
  case atStart => exact ⟨0, Nat.zero_le _, rfl, by simp, Sl.congr h fun j _ => by simp, World.grownBy.refl _ _, Lib.hid rfl⟩
  case round =>
    obtain ⟨m, hm, rfl, rfl, hs, ht, HS⟩ := hrel
    by_cases hlt : m < zs.length
    · obtain ⟨b, off, rfl, hb1, hb2, hcs⟩ := hcell (by omega)
      obtain ⟨hck, hfk⟩ := hs.at_ (j := m) (by omega)
      rw [rowOf_some (by omega)] at ht
      clear hcs hcell
      go_wp2
      go_roundw
      case rel =>
        refine ⟨m + 1, by omega, by go_num, by go_num, ?_, by rw [rowOf_some (by omega)]; exact grownBy_setCell ht rfl _, Lib.hid (by simpa [World.setCell] using HS.out)⟩
        refine (hs.set (j := m) (by omega) (.int .i64 (k + m))).congr fun j hj => ?_
        by_cases e : j = m
        · subst e; simp
        · simp only [if_neg e]
          by_cases e2 : j < m
          · rw [if_pos e2, if_pos (by omega)]
          · rw [if_neg e2, if_neg (by omega)]
      case measure => simp [intOf]; omega
    · obtain rfl : m = zs.length := by omega
      go_wp2
      go_ret
      refine ⟨rfl, ?_, ht, HS.out⟩
      unfold IntS
      rw [run_length]
      exact hs.congr fun j hj => by rw [if_pos (by omega), nth_run _ _ _ (by omega)]

set_option maxHeartbeats 400000 in
/-- the numbers that mark left are found -/
theorem heldIntS_yes (v : Value) (zs : List Int) (k : Int) (lo hi : Nat) (w : World) (h : IntS w lo hi v (run k zs.length)) (hk0 : 0 ≤ k) (hk1 : k ≤ 1152921504606846976) (hn : zs.length ≤ 1152921504606846976) :
    Calls Try.prog 13 #[v, .int .i64 k] w fun e w' => e = .returned (.int .i64 (k + zs.length)) ∧ Below w.heap.size w w' := by
  generalize zs.length = n at *
  obtain ⟨A, c, rfl, hc1, hc2, hcell⟩ := h.form
  simp only [run_length] at *
  go_enter Try.func13, Try.ntmps13
  go_wp2
  go_loop [5, 1] (fun i kv => ∃ m : Nat, m ≤ n ∧ i = .int .i64 m ∧ kv = .int .i64 (k + m)) (fun i _ => n - (intOf i).toNat)
  case atStart => exact ⟨0, Nat.zero_le _, rfl, by simp⟩
  case round =>
    obtain ⟨m, hm, rfl, rfl⟩ := hrel
    by_cases hlt : m < n
    · obtain ⟨b, off, rfl, hb1, hb2, hcs⟩ := hcell (by omega)
      have hck := (hcs m hlt).1
      rw [nth_run _ _ _ hlt] at hck
      clear hcs hcell
      go_wp2
      go_round
      case rel => exact ⟨m + 1, by omega, by go_num, by go_num⟩
      case measure => simp [intOf]; omega
    · obtain rfl : m = n := by omega
      go_wp2
      go_ret
      exact ⟨rfl, Below.refl _ _⟩

end Go.Proofs.Ytmdlginjblnfoaa
