/-
  slices.Repeat of a list of one number.
-/
import Derived.Test.YtcmmklcampmkjaaBase
import Derived.Test.YtcmmklcampmkjaaShelf
import Derived.Laws.IdiomCopy
import Derived.Test.YtcmmklcampmkjaaTreeP
namespace Go.Proofs.Ytcmmklcampmkjaa
open Go.ChangeShapes Go.WideShapes Go.ChangeAt Go.RowKit
set_option linter.unusedVariables false

theorem setCells_row {w : World} {g n : Nat} {t : TypeId} {f : Nat → Value} (h : w.rowIs g t n f) : ∀ (cs : List Value) (o : Nat), (w.setCells g o cs).rowIs g t n (fun j => if o ≤ j ∧ j < o + cs.length then cs.getD (j - o) undef else f j) := by
  intro cs
  induction cs generalizing w f with
  | nil => intro o; exact h.congr fun j hj => by rw [if_neg (by simp)]; 
  | cons x cs ih =>
    intro o
    have := ih (h.set o x) (o + 1)
    refine this.congr fun j hj => ?_
    by_cases e1 : j = o
    · subst e1; rw [if_neg (by omega), if_pos rfl, if_pos (by simp)]; simp
    · by_cases e2 : o + 1 ≤ j ∧ j < o + 1 + cs.length
      · rw [if_pos e2, if_pos (by rw [List.length_cons]; omega), show j - o = (j - (o + 1)) + 1 by omega]; rfl
      · rw [if_neg e2, if_neg e1, if_neg (by rw [List.length_cons]; omega)]
theorem below_setCells {B : Nat} {a w : World} (h : Below B a w) {g : Nat} (hg : B ≤ g) : ∀ (cs : List Value) (o : Nat), Below B a (w.setCells g o cs) := by
  intro cs
  induction cs generalizing w with
  | nil => intro o; exact h
  | cons x cs ih => intro o; exact ih (h.setCell (p := ⟨g, o, none⟩) hg x) (o + 1)

theorem mul1_any (n : Nat) (hn : n ≤ 1048576) (w : World) : Calls Try.prog 87 #[.int .u64 1, .int .u64 n] w fun e w' => e = .returned (.tuple #[.int .u64 0, .int .u64 n]) ∧ w = w' := by
  refine (Try.bits_Mul 1 n (by omega) (by omega) w).mono ?_
  rintro e w' ⟨rfl, rfl⟩
  refine ⟨?_, rfl⟩
  rw [Nat.one_mul, Nat.div_eq_of_lt (by omega), Nat.mod_eq_of_lt (by omega)]
  rfl

set_option maxRecDepth 100000 in
set_option maxHeartbeats 1000000 in
theorem repeat1_any (v : Value) (x : Int) (n : Nat) (lo hi : Nat) (w : World) (h : IntS w lo hi v [x]) (hhi : hi ≤ w.heap.size) (hn : n ≤ 1048576) :
    Calls Try.prog 66 #[v, .int .i64 n] w fun e w' => ∃ r, e = .returned r ∧ IntS w' w.heap.size w'.heap.size r (List.replicate n x) ∧ Below w.heap.size w w' := by
  obtain ⟨A, c, rfl, hc1, hc2, hcell⟩ := h.form
  unfold maxLen at hc2
  obtain ⟨b, off, rfl, hb1, hb2, hcs⟩ := hcell (by simp)
  have hck := (hcs 0 (by simp)).1
  rw [nth_cons_zero, Nat.add_zero] at hck
  clear hcell hcs h
  simp only [List.length_singleton] at hc1 ⊢
  have hmk := fun W => run_make_row' (P := Try.prog) 23 3 (.int .i64 0) 8 Try.underlying23 Try.info3 rfl .i64 .i64 n (by omega) (by omega) W
  rcases Nat.eq_zero_or_pos n with h0 | h0
  · subst h0
    have hcp := fun ty W => run_copy_none (P := Try.prog) W 23 23 ty 3 (some ⟨w.heap.size, 0, none⟩) (some ⟨b, off, none⟩) 0 0 1 c Try.underlying23 (by kernel_rfl) (by simp)
    simp only [goInt] at hcp
    simp only [show ((0 : Nat) : Int) = 0 from rfl] at hmk
    go_enter Try.func66, Try.ntmps66
    go_wp2_with (go_at_call 87; refine (mul1_any 0 hn _).mono ?_; rintro e w' ⟨rfl, rfl⟩)
    go_loopw [8] (fun i wr => i = .int .i64 0 ∧ Below w.heap.size w wr) (fun _ _ => 0)
    case atStart => exact ⟨rfl, (Below.refl _ _).alloc (Nat.le_refl _) _⟩
    case round =>
      obtain ⟨rfl, hb⟩ := hrel
      go_wp2_with fail
      go_ret
      refine ⟨_, rfl, ?_, hb⟩
      exact ⟨_, 0, rfl, Nat.le_refl _, by simp, fun hp => absurd hp (by simp)⟩
  obtain ⟨W0, HW0⟩ : ∃ W0, Hid (W0 = w.alloc (.cells (madeCells #[.int .i64 0] n) 3)) := ⟨_, Lib.hid rfl⟩
  have hr0 : W0.rowIs w.heap.size 3 n (fun _ => .int .i64 0) := by rw [HW0.out]; exact World.rowIs_made w (.int .i64 0) n 3
  have hb0 : Below w.heap.size w W0 := by rw [HW0.out]; exact (Below.refl _ _).alloc (Nat.le_refl _) _
  have hcp := fun ty => run_copy_cells (P := Try.prog) W0 23 23 ty 3 w.heap.size 0 n n ⟨b, off, none⟩ 1 c [.int .i64 x] Try.underlying23 (by kernel_rfl) (by show 1 = min 1 n; omega)
    (fun j u hj => by
      match j, hj with
      | 0, hj =>
        simp only [List.getElem?_cons_zero, Option.some.injEq] at hj
        subst hj
        exact (hb0.cell (p := ⟨b, off, none⟩) (by show b < _; omega)).trans hck)
    (fun j hj => by rw [Nat.zero_add, hr0.cell (by simp at hj; omega)]; rfl) (fun j hj => by rw [Nat.zero_add]; exact hr0.frozen j) (by simp [Value.oneCell'])
  rw [HW0.out] at hcp
  simp only [goInt, List.length_singleton] at hcp
  go_enter Try.func66, Try.ntmps66
  go_wp2_with (go_at_call 87; refine (mul1_any n hn _).mono ?_; rintro e w' ⟨rfl, rfl⟩)
  rw [← HW0.out]
  clear hcp hmk
  have hr1 : (W0.setCells w.heap.size 0 [.int .i64 x]).rowIs w.heap.size 3 n (fun j => .int .i64 (if j < 1 then x else 0)) := (setCells_row hr0 _ 0).congr fun j hj => by
    by_cases e : j < 1
    · rw [if_pos (by simp; omega), if_pos e]; obtain rfl : j = 0 := by omega
      rfl
    · rw [if_neg (by simp; omega), if_neg e]
  go_loopw [8] (fun i wr => ∃ k : Nat, 1 ≤ k ∧ k ≤ n ∧ i = .int .i64 k ∧ wr.rowIs w.heap.size 3 n (fun j => .int .i64 (if j < k then x else 0)) ∧ Below w.heap.size w wr) (fun i _ => n - (intOf i).toNat)
  case atStart => exact ⟨1, by omega, by omega, rfl, hr1, below_setCells hb0 (Nat.le_refl _) _ _⟩
  case round =>
    clear hr0 hr1 hb0 HW0
    obtain ⟨k, hk1, hk, rfl, hrow, hb⟩ := hrel
    by_cases hlt : k < n
    · have hcp := fun ty => run_copy_cells (P := Try.prog) wr.drew 23 23 ty 3 w.heap.size k (n - k) (n - k) ⟨w.heap.size, 0, none⟩ k n (List.replicate (min k (n - k)) (.int .i64 x)) Try.underlying23 (by kernel_rfl) (by simp [Nat.min_def])
        (fun j u hj => by
          rw [Addr.add_lit, Nat.zero_add]
          have hj2 : j < min k (n - k) := by have := (List.getElem?_eq_some_iff.1 hj).1; simpa using this
          have := hrow.cell (i := j) (by omega)
          rw [if_pos (by omega)] at this
          rw [List.getElem?_replicate, if_pos hj2] at hj
          rw [← hj]
          exact this)
        (fun j hj => by rw [show wr.drew.cell? _ = wr.cell? _ from rfl, hrow.cell (by simp at hj; omega)]; rfl) (fun j hj => hrow.frozen (k + j)) (fun u hu => by rw [List.eq_of_mem_replicate hu]; rfl)
      simp only [goInt, List.length_replicate] at hcp
      go_wp2_with fail
      have hmin : min k (n - k) ≤ n - k := by omega
      have hmin1 : 1 ≤ min k (n - k) := by omega
      generalize hq : min k (n - k) = q at hcp hmin hmin1
      clear hq
      go_region
      go_wp2_with fail
      go_roundw
      case rel =>
        refine ⟨k + q, by omega, by omega, by go_num, ?_, below_setCells (w := wr.drew) ⟨hb.os, hb.tape, hb.output, hb.size, hb.block⟩ (Nat.le_refl _) _ _⟩
        refine (setCells_row (w := wr.drew) hrow _ k).congr fun j hj => ?_
        rw [List.length_replicate]
        by_cases e : k ≤ j ∧ j < k + q
        · rw [if_pos e, if_pos (by omega)]; simp [List.getD_eq_getElem?_getD, show j - k < q by omega]
        · rw [if_neg e]
          by_cases e2 : j < k
          · rw [if_pos e2, if_pos (by omega)]
          · rw [if_neg e2, if_neg (by omega)]
      case measure => simp [intOf]; omega
    · obtain rfl : k = n := by omega
      go_wp2_with fail
      go_ret
      refine ⟨.slice (some ⟨w.heap.size, 0, none⟩) k k, rfl, ?_, hb⟩
      unfold IntS
      rw [List.length_replicate]
      exact (Sl.of_row hrow (Nat.le_refl _) (by omega) (Nat.le_refl _) (by unfold maxLen; omega)).congr fun j hj => by
        rw [if_pos (by omega), nth_eq (by simp; omega)]; simp

/-- a slice of one number, just laid -/
theorem IntS.one (w : World) (x : Int) (t : TypeId) {g : Nat} (hg : w.heap.size = g) : IntS (w.alloc (.cells #[.int .i64 x] t)) g (g + 1) (.slice (some ⟨g, 0, none⟩) 1 1) [x] := by
  subst hg
  refine ⟨_, 1, rfl, Nat.le_refl _, by unfold maxLen; omega, fun _ => ⟨w.heap.size, 0, rfl, Nat.le_refl _, by omega, fun j hj => ?_⟩⟩
  obtain rfl : j = 0 := by simp at hj; omega
  exact ⟨by rw [World.cell?_alloc_at _ _ _ _ rfl]; rfl, World.frozen?_alloc_at _ _ _ _ rfl⟩

set_option maxHeartbeats 400000 in
theorem noMatching_any (v : Value) (N : NetD) (lo hi : Nat) (w : World) (h : Net w lo hi v N) (hhi : hi ≤ w.heap.size) (hn : N.ends.length ≤ 1048576) :
    Calls Try.prog 41 #[v] w fun e w' => ∃ r, e = .returned r ∧ IntS w' w.heap.size w'.heap.size r (List.replicate N.ends.length (-1)) ∧ Below w.heap.size w w' := by
  obtain ⟨A, c, A2, c2, A3, c3, rfl, _⟩ := h.parts
  go_enter Try.func41, Try.ntmps41
  go_wp2_with fail
  refine (repeat1_any _ (-1) N.ends.length (w.heap.size + 1) (w.heap.size + 1 + 1) _ (IntS.one _ _ _ (by simp)) (by simp) hn).mono ?_
  rintro e w1 ⟨r, rfl, hr, hb⟩
  have HR := Lib.hid hr
  have hsh := hr.shape
  rw [List.length_replicate] at hsh
  obtain ⟨B, d, rfl⟩ := hsh
  clear hr
  go_wp2_with fail
  go_ret
  exact ⟨_, rfl, HR.out.mono (lo' := w.heap.size) (by simp; omega) (Nat.le_refl _), Below.trans (B := w.heap.size) (below_a2' w _ _) (hb.mono (by simp; omega))⟩

end Go.Proofs.Ytcmmklcampmkjaa
