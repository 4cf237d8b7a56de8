/-
  Contracts of slices.IndexFunc and slices.ContainsFunc at edges, ends and rows; a function value's contract is asked at each place.
-/
import Derived.Test.YtcmmklcampmkjaaQuadP
import Derived.Test.YtcmmklcampmkjaaExt
import Derived.Deep.Cut
namespace Go.Proofs.Ytcmmklcampmkjaa
open Go.ChangeShapes Go.WideShapes Go.ChangeAt Go.RowKit
set_option linter.unusedVariables false

/-- the first number below n that a predicate takes, or -1 -/
def fidxN (p : Nat → Bool) (n : Nat) : Int := if (List.range n).any p then ((List.range n).findIdx p : Int) else -1
theorem fidxN_hit {p : Nat → Bool} {n k : Nat} (hk : k < n) (h : p k = true) (hb : ∀ j, j < k → p j = false) : fidxN p n = k := by
  have ha : (List.range n).any p = true := List.any_eq_true.2 ⟨k, List.mem_range.2 hk, h⟩
  unfold fidxN
  rw [if_pos ha]
  have : (List.range n).findIdx p = k := by
    rw [List.findIdx_eq (by simpa using hk)]
    refine ⟨by simpa using h, fun j hj => ?_⟩
    have := hb j hj
    simpa using this
  rw [this]
theorem fidxN_none {p : Nat → Bool} {n : Nat} (h : ∀ j, j < n → p j = false) : fidxN p n = -1 := by
  unfold fidxN
  rw [if_neg]
  intro ha
  obtain ⟨x, hx, hp⟩ := List.any_eq_true.1 ha
  have := h x (List.mem_range.1 hx)
  rw [hp] at this
  cases this
theorem fidxN_any (p : Nat → Bool) (n : Nat) : decide (0 ≤ fidxN p n) = (List.range n).any p := by
  unfold fidxN
  split
  · rename_i h; rw [h]; simp
  · rename_i h; rw [Bool.not_eq_true] at h; rw [h]; rfl
theorem fidxN_cases (p : Nat → Bool) (n : Nat) : (fidxN p n = -1 ∧ ∀ j, j < n → p j = false) ∨ ∃ k : Nat, k < n ∧ fidxN p n = k ∧ p k = true ∧ ∀ j, j < k → p j = false := by
  induction n with
  | zero => left; exact ⟨rfl, fun j hj => absurd hj (by omega)⟩
  | succ n ih =>
    rcases ih with ⟨_, h⟩ | ⟨k, h1, _, h3, h4⟩
    · cases hp : p n with
      | true => right; exact ⟨n, by omega, fidxN_hit (by omega) hp h, hp, h⟩
      | false =>
        left
        have h' : ∀ j, j < n + 1 → p j = false := fun j hj => by
          by_cases e : j = n
          · rw [e]; exact hp
          · exact h j (by omega)
        exact ⟨fidxN_none h', h'⟩
    · right; exact ⟨k, by omega, fidxN_hit (by omega) h3 h4, h3, h4⟩

set_option maxHeartbeats 1000000 in
theorem IndexFunc_edge (f : Nat) (caps : Array Value) (eg : ∀ args w, (callFunc f args).run Try.prog w = .ok (.enter f args) w) (p : Nat → Bool) (v : Value) (qs : List Quad) (lo hi : Nat) (w : World) (h : QuadS w lo hi v qs) (hhi : hi ≤ w.heap.size)
    (hp : ∀ k, k < qs.length → ∀ W, Below w.heap.size w W → Calls Try.prog f (#[.agg #[.int .i64 (nthQ qs k).v, .int .i64 (nthQ qs k).i, .int .i64 (nthQ qs k).w, .int .i64 (nthQ qs k).j]] ++ caps) W fun e w' => e = .returned (.bool (p k)) ∧ Below W.heap.size W w') :
    Calls Try.prog 100 #[v, .func (.func f) #[] caps] w fun e w' => e = .returned (.int .i64 (fidxN p qs.length)) ∧ Below w.heap.size w w' := by
  obtain ⟨A, c, rfl, hc1, hc2⟩ := h.dims
  have HP := Lib.hid hp
  clear hp
  go_enter Try.func100, Try.ntmps100
  go_wp2
  go_loopw [8] (fun i wr => ∃ k : Nat, k ≤ qs.length ∧ i = .int .i64 k ∧ Hid (∀ j, j < k → p j = false) ∧ Below w.heap.size w wr) (fun i _ => qs.length - (intOf i).toNat)
  case atStart => exact ⟨0, Nat.zero_le _, rfl, Lib.hid fun j hj => absurd hj (by omega), Below.refl _ _⟩
  case round =>
    obtain ⟨k, hk, rfl, HU, hb⟩ := hrel
    have hs0 := hb.size
    by_cases hlt : k < qs.length
    · obtain ⟨b, off, rfl, hb1, hb2, z1, z2, z3, z4⟩ := (h.below hb hhi).opened hlt
      cases hq : p k with
      | true =>
        have HC := Lib.hid (HP.out k hlt wr hb)
        rw [hq] at HC
        have HQ := Lib.hid hq
        clear hq
        go_wp2_with (go_at_fn f; refine HC.out.mono ?_; rintro e w' ⟨rfl, hb'⟩)
        go_ret
        exact ⟨ret_int (fidxN_hit hlt HQ.out HU.out).symm, hb.trans (hb'.mono hs0)⟩
      | false =>
        have HC := Lib.hid (HP.out k hlt wr hb)
        rw [hq] at HC
        have HQ := Lib.hid hq
        clear hq
        go_wp2_with (go_at_fn f; refine HC.out.mono ?_; rintro e w' ⟨rfl, hb'⟩)
        go_roundw
        case rel =>
          refine ⟨k + 1, by omega, by go_num, Lib.hid fun j hj => ?_, hb.trans (hb'.mono hs0)⟩
          by_cases e : j = k
          · rw [e]; exact HQ.out
          · exact HU.out j (by omega)
        case measure => simp [intOf]; omega
    · obtain rfl : k = qs.length := by omega
      go_wp2
      go_ret
      exact ⟨ret_int (fidxN_none HU.out).symm, hb⟩

theorem ContainsFunc_edge (f : Nat) (caps : Array Value) (eg : ∀ args w, (callFunc f args).run Try.prog w = .ok (.enter f args) w) (p : Nat → Bool) (v : Value) (qs : List Quad) (lo hi : Nat) (w : World) (h : QuadS w lo hi v qs) (hhi : hi ≤ w.heap.size)
    (hp : ∀ k, k < qs.length → ∀ W, Below w.heap.size w W → Calls Try.prog f (#[.agg #[.int .i64 (nthQ qs k).v, .int .i64 (nthQ qs k).i, .int .i64 (nthQ qs k).w, .int .i64 (nthQ qs k).j]] ++ caps) W fun e w' => e = .returned (.bool (p k)) ∧ Below W.heap.size W w') :
    Calls Try.prog 82 #[v, .func (.func f) #[] caps] w fun e w' => e = .returned (.bool ((List.range qs.length).any p)) ∧ Below w.heap.size w w' := by
  have HC := Lib.hid (IndexFunc_edge f caps eg p v qs lo hi w h hhi hp)
  obtain ⟨A, c, rfl, hc1, hc2⟩ := h.dims
  clear hp h eg
  go_enter Try.func82, Try.ntmps82
  go_wp2_with (go_at_call 100; refine HC.out.mono ?_; rintro e w' ⟨rfl, hb'⟩)
  go_ret
  exact ⟨ret_bool (fidxN_any p _), hb'⟩


set_option maxHeartbeats 1000000 in
theorem IndexFunc_row (f : Nat) (caps : Array Value) (eg : ∀ args w, (callFunc f args).run Try.prog w = .ok (.enter f args) w) (p : Nat → Bool) (v : Value) (qs : List (List Int)) (lo hi : Nat) (w : World) (h : IntSS w lo hi v qs) (hhi : hi ≤ w.heap.size)
    (hp : ∀ k u, k < qs.length → ∀ W, Below w.heap.size w W → IntS W lo hi u (nthL qs k) → Calls Try.prog f (#[u] ++ caps) W fun e w' => e = .returned (.bool (p k)) ∧ Below W.heap.size W w') :
    Calls Try.prog 105 #[v, .func (.func f) #[] caps] w fun e w' => e = .returned (.int .i64 (fidxN p qs.length)) ∧ Below w.heap.size w w' := by
  obtain ⟨A, c, rfl, hc1, hc2⟩ := h.dims
  have HP := Lib.hid hp
  clear hp
  go_enter Try.func105, Try.ntmps105
  go_wp2
  go_loopw [8] (fun i wr => ∃ k : Nat, k ≤ qs.length ∧ i = .int .i64 k ∧ Hid (∀ j, j < k → p j = false) ∧ Below w.heap.size w wr) (fun i _ => qs.length - (intOf i).toNat)
  case atStart => exact ⟨0, Nat.zero_le _, rfl, Lib.hid fun j hj => absurd hj (by omega), Below.refl _ _⟩
  case round =>
    obtain ⟨k, hk, rfl, HU, hb⟩ := hrel
    have hs0 := hb.size
    by_cases hlt : k < qs.length
    · obtain ⟨b, off, u, rfl, hb1, hb2, z1, hu⟩ := (ISS.below h hb hhi).opened hlt
      cases hq : p k with
      | true =>
        have HC := Lib.hid (HP.out k u hlt wr hb hu)
        rw [hq] at HC
        have HQ := Lib.hid hq
        clear hq
        go_wp2_with (go_at_fn f; refine HC.out.mono ?_; rintro e w' ⟨rfl, hb'⟩)
        go_ret
        exact ⟨ret_int (fidxN_hit hlt HQ.out HU.out).symm, hb.trans (hb'.mono hs0)⟩
      | false =>
        have HC := Lib.hid (HP.out k u hlt wr hb hu)
        rw [hq] at HC
        have HQ := Lib.hid hq
        clear hq
        go_wp2_with (go_at_fn f; refine HC.out.mono ?_; rintro e w' ⟨rfl, hb'⟩)
        go_roundw
        case rel =>
          refine ⟨k + 1, by omega, by go_num, Lib.hid fun j hj => ?_, hb.trans (hb'.mono hs0)⟩
          by_cases e : j = k
          · rw [e]; exact HQ.out
          · exact HU.out j (by omega)
        case measure => simp [intOf]; omega
    · obtain rfl : k = qs.length := by omega
      go_wp2
      go_ret
      exact ⟨ret_int (fidxN_none HU.out).symm, hb⟩

theorem ContainsFunc_row (f : Nat) (caps : Array Value) (eg : ∀ args w, (callFunc f args).run Try.prog w = .ok (.enter f args) w) (p : Nat → Bool) (v : Value) (qs : List (List Int)) (lo hi : Nat) (w : World) (h : IntSS w lo hi v qs) (hhi : hi ≤ w.heap.size)
    (hp : ∀ k u, k < qs.length → ∀ W, Below w.heap.size w W → IntS W lo hi u (nthL qs k) → Calls Try.prog f (#[u] ++ caps) W fun e w' => e = .returned (.bool (p k)) ∧ Below W.heap.size W w') :
    Calls Try.prog 94 #[v, .func (.func f) #[] caps] w fun e w' => e = .returned (.bool ((List.range qs.length).any p)) ∧ Below w.heap.size w w' := by
  have HC := Lib.hid (IndexFunc_row f caps eg p v qs lo hi w h hhi hp)
  obtain ⟨A, c, rfl, hc1, hc2⟩ := h.dims
  clear hp h eg
  go_enter Try.func94, Try.ntmps94
  go_wp2_with (go_at_call 105; refine HC.out.mono ?_; rintro e w' ⟨rfl, hb'⟩)
  go_ret
  exact ⟨ret_bool (fidxN_any p _), hb'⟩

end Go.Proofs.Ytcmmklcampmkjaa
