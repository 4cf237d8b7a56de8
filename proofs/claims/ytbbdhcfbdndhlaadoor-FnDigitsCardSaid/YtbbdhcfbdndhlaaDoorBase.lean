/-
  Contracts of small functions of the program and of the reference on numbers and on lists of numbers.
-/
import Derived.Test.YtbbdhcfbdndhlaaDoorInts
import Derived.Test.YtbbdhcfbdndhlaaDoorSS
import Derived.Test.YtbbdhcfbdndhlaaDoorOpen
import Derived.Shelf.Abstract
import Derived.Shelf.GgClosure.Gives
namespace Go.Proofs.YtbbdhcfbdndhlaaDoor
open Go.ChangeShapes Go.WideShapes Go.ChangeAt Go.RowKit
set_option linter.unusedVariables false

def inB (n lo hi : Int) : Bool := decide (lo ≤ n) && decide (n ≤ hi)
theorem inB_true {n lo hi : Int} (h1 : lo ≤ n) (h2 : n ≤ hi) : inB n lo hi = true := by simp [inB, h1, h2]
theorem inB_low {n lo hi : Int} (h1 : n < lo) : inB n lo hi = false := by simp [inB]; omega
theorem inB_high {n lo hi : Int} (h1 : hi < n) : inB n lo hi = false := by simp [inB]; omega
theorem inB_le {n lo hi : Int} (h : inB n lo hi = true) : lo ≤ n ∧ n ≤ hi := by simpa [inB] using h
theorem inB_not {n lo hi : Int} (h : inB n lo hi = false) : n < lo ∨ hi < n := by simp [inB] at h; omega

theorem within_any (n lo hi : Int) (w : World) :
    Calls Tryd.prog 24 #[.int .i64 n, .int .i64 lo, .int .i64 hi] w fun e w' => e = .returned (.bool (inB n lo hi)) ∧ w = w' := by
  by_cases h1 : lo ≤ n
  · go_enter Tryd.func24, Tryd.ntmps24
    go_wp2
    go_ret
    exact ⟨by simp [inB, h1], rfl⟩
  · have h1' : n < lo := by omega
    go_enter Tryd.func24, Tryd.ntmps24
    go_wp2
    go_ret
    exact ⟨ret_bool (inB_low h1').symm, rfl⟩

theorem l1In_any (n lo hi : Int) (w : World) :
    Calls Tryd.prog 26 #[.int .i64 n, .int .i64 lo, .int .i64 hi] w fun e w' => e = .returned (.bool (inB n lo hi)) ∧ w = w' := by
  by_cases h1 : lo ≤ n
  · go_enter Tryd.func26, Tryd.ntmps26
    go_wp2
    go_ret
    exact ⟨by simp [inB, h1], rfl⟩
  · have h1' : n < lo := by omega
    go_enter Tryd.func26, Tryd.ntmps26
    go_wp2
    go_ret
    exact ⟨ret_bool (inB_low h1').symm, rfl⟩

theorem below_a2' (w : World) (o o2 : Obj) : Below w.heap.size w ((w.alloc o).alloc o2) := ((Below.refl _ _).alloc (Nat.le_refl _) o).alloc (by simp) _

/-- a property of all elements before k -/
def Upto (zs : List Int) (k : Nat) (p : Int → Bool) : Prop := ∀ j, j < k → p (nth zs j) = true
theorem Upto.zero (zs : List Int) (p : Int → Bool) : Upto zs 0 p := fun j hj => absurd hj (by omega)
theorem Upto.succ {zs : List Int} {k : Nat} {p : Int → Bool} (h : Upto zs k p) (hk : p (nth zs k) = true) : Upto zs (k + 1) p := fun j hj => by
  by_cases e : j = k
  · rw [e]; exact hk
  · exact h j (by omega)
theorem Upto.all {zs : List Int} {p : Int → Bool} (h : Upto zs zs.length p) : zs.all p = true := by
  rw [List.all_eq_true]
  intro x hx
  obtain ⟨j, hj, e⟩ := List.mem_iff_getElem.1 hx
  have := h j hj
  rwa [nth_eq hj, e] at this
theorem all_false {zs : List Int} {k : Nat} {p : Int → Bool} (hk : k < zs.length) (h : p (nth zs k) = false) : zs.all p = false := by
  rw [Bool.eq_false_iff]
  intro ha
  rw [List.all_eq_true] at ha
  have := ha _ (nth_mem hk)
  rw [h] at this
  cases this

/-- strictly increasing numbers within bounds -/
def risingAt (zs : List Int) (a b : Int) (k : Nat) : Bool := inB (nth zs k) a b && (k == 0 || decide (nth zs (k - 1) < nth zs k))
def rising (zs : List Int) (a b : Int) : Bool := (List.range zs.length).all (risingAt zs a b)
theorem rising_true {zs : List Int} {a b : Int} (h : ∀ j, j < zs.length → risingAt zs a b j = true) : rising zs a b = true := by
  unfold rising; rw [List.all_eq_true]; intro j hj; exact h j (List.mem_range.1 hj)
theorem rising_false {zs : List Int} {a b : Int} {k : Nat} (hk : k < zs.length) (h : risingAt zs a b k = false) : rising zs a b = false := by
  rw [Bool.eq_false_iff]; intro ha; unfold rising at ha; rw [List.all_eq_true] at ha
  have := ha k (List.mem_range.2 hk); rw [h] at this; cases this

/-- identifiers, as the reference looks at them -/
def idAt (zs : List Int) (k : Nat) : Bool := inB (nth zs k) 1 999999 && !decide (nth zs k ∈ zs.take k)
def idsGood (zs : List Int) (n : Int) : Bool := (List.range zs.length).all (idAt zs) && (decide (zs.length = 0) || decide ((zs.length : Int) = n))
theorem idsGood_bad {zs : List Int} {n : Int} {k : Nat} (hk : k < zs.length) (h : idAt zs k = false) : idsGood zs n = false := by
  have : (List.range zs.length).all (idAt zs) = false := by
    rw [Bool.eq_false_iff]; intro ha; rw [List.all_eq_true] at ha
    have := ha k (List.mem_range.2 hk); rw [h] at this; cases this
  simp [idsGood, this]
theorem idsGood_ok {zs : List Int} {n : Int} (h : ∀ j, j < zs.length → idAt zs j = true) : idsGood zs n = (decide (zs.length = 0) || decide ((zs.length : Int) = n)) := by
  have : (List.range zs.length).all (idAt zs) = true := by rw [List.all_eq_true]; intro j hj; exact h j (List.mem_range.1 hj)
  simp [idsGood, this]

/-- the first k elements of a slice -/
theorem IntS.take {w : World} {lo hi : Nat} {A : Option Addr} {c : Nat} {zs : List Int} (h : IntS w lo hi (.slice A zs.length c) zs) (k : Nat) (hk : k ≤ zs.length) : IntS w lo hi (.slice A k c) (zs.take k) := by
  obtain ⟨A', c', e, h1, h2, h3⟩ := h.form
  injection e with e1 e2 e3
  subst e1 e3
  have hl : (zs.take k).length = k := List.length_take_of_le hk
  refine ⟨A, c, by rw [hl], by rw [hl]; omega, h2, fun hn => ?_⟩
  rw [hl] at hn
  obtain ⟨b, off, e4, h4, h5, h6⟩ := h3 (by omega)
  refine ⟨b, off, e4, h4, h5, fun j hj => ?_⟩
  rw [hl] at hj
  have : nth (zs.take k) j = nth zs j := by simp only [nth, List.getD_eq_getElem?_getD]; rw [List.getElem?_take_of_lt (by omega)]
  show w.cell? _ = some (Value.int .i64 (nth (zs.take k) j)) ∧ _
  rw [this]
  exact h6 j (by omega)

/-- the place of the first number that a predicate takes, or -1 -/
def fidx (p : Int → Bool) (zs : List Int) : Int := if zs.any p then (zs.findIdx p : Int) else -1
theorem fidx_hit {p : Int → Bool} {zs : List Int} {k : Nat} (hk : k < zs.length) (h : p (nth zs k) = true) (hb : ∀ j, j < k → p (nth zs j) = false) : fidx p zs = k := by
  have ha : zs.any p = true := List.any_eq_true.2 ⟨_, nth_mem hk, h⟩
  unfold fidx
  rw [if_pos ha]
  have : zs.findIdx p = k := by
    rw [List.findIdx_eq hk]
    refine ⟨by rw [← nth_eq hk]; exact h, fun j hj => ?_⟩
    have := hb j hj
    rw [nth_eq (by omega)] at this
    simpa using this
  rw [this]
theorem fidx_none {p : Int → Bool} {zs : List Int} (h : ∀ j, j < zs.length → p (nth zs j) = false) : fidx p zs = -1 := by
  unfold fidx
  rw [if_neg]
  intro ha
  obtain ⟨x, hx, hp⟩ := List.any_eq_true.1 ha
  obtain ⟨j, hj, e⟩ := List.mem_iff_getElem.1 hx
  have := h j hj
  rw [nth_eq hj, e, hp] at this
  cases this
theorem fidx_any (p : Int → Bool) (zs : List Int) : decide (0 ≤ fidx p zs) = zs.any p := by
  unfold fidx
  split
  · rename_i h; rw [h]; simp
  · rename_i h; rw [Bool.not_eq_true] at h; rw [h]; rfl

set_option maxHeartbeats 1000000 in
theorem IndexFunc_int (f : Nat) (caps : Array Value) (eg : ∀ args w, (callFunc f args).run Tryd.prog w = .ok (.enter f args) w) (p : Int → Bool) (v : Value) (zs : List Int) (lo hi : Nat) (w : World) (h : IntS w lo hi v zs) (hhi : hi ≤ w.heap.size)
    (hp : ∀ x ∈ zs, ∀ W, Below w.heap.size w W → Calls Tryd.prog f (#[.int .i64 x] ++ caps) W fun e w' => e = .returned (.bool (p x)) ∧ Below W.heap.size W w') :
    Calls Tryd.prog 43 #[v, .func (.func f) #[] caps] w fun e w' => e = .returned (.int .i64 (fidx p zs)) ∧ Below w.heap.size w w' := by
  obtain ⟨A, c, rfl, hc1, hc2, hcell⟩ := h.form
  unfold maxLen at hc2
  have HP := Lib.hid hp
  clear hp
  go_enter Tryd.func43, Tryd.ntmps43
  go_wp2
  go_loopw [8] (fun i wr => ∃ k : Nat, k ≤ zs.length ∧ i = .int .i64 k ∧ Hid (∀ j, j < k → p (nth zs j) = false) ∧ Below w.heap.size w wr) (fun i _ => zs.length - (intOf i).toNat)
  case atStart => exact ⟨0, Nat.zero_le _, rfl, Lib.hid fun j hj => absurd hj (by omega), Below.refl _ _⟩
  case round =>
    obtain ⟨k, hk, rfl, HU, hb⟩ := hrel
    have hs0 := hb.size
    by_cases hlt : k < zs.length
    · obtain ⟨b, off, rfl, hb1, hb2, hcs⟩ := hcell (by omega)
      have hck := (hb.cell (p := ⟨b, off + k, none⟩) (by show b < _; omega)).trans (hcs k hlt).1
      clear hcs hcell
      cases hq : p (nth zs k) with
      | true =>
        have HC := Lib.hid (HP.out _ (nth_mem hlt) wr hb)
        rw [hq] at HC
        have HQ := Lib.hid hq
        clear hq
        go_wp2_with (go_at_fn f; refine HC.out.mono ?_; rintro e w' ⟨rfl, hb'⟩)
        go_ret
        exact ⟨ret_int (fidx_hit hlt HQ.out HU.out).symm, hb.trans (hb'.mono hs0)⟩
      | false =>
        have HC := Lib.hid (HP.out _ (nth_mem hlt) wr hb)
        rw [hq] at HC
        have HQ := Lib.hid hq
        clear hq
        go_wp2_with (go_at_fn f; refine HC.out.mono ?_; rintro e w' ⟨rfl, hb'⟩)
        go_roundw
        case rel =>
          refine ⟨k + 1, by omega, by go_num, Lib.hid fun j hj => ?_, hb.trans (hb'.mono hs0)⟩
          by_cases e : j = k
          · rw [e]; exact HQ.out
          · exact HU.out j (by omega)
        case measure => simp [intOf]; omega
    · obtain rfl : k = zs.length := by omega
      go_wp2
      go_ret
      exact ⟨ret_int (fidx_none HU.out).symm, hb⟩

theorem ContainsFunc_int (f : Nat) (caps : Array Value) (eg : ∀ args w, (callFunc f args).run Tryd.prog w = .ok (.enter f args) w) (p : Int → Bool) (v : Value) (zs : List Int) (lo hi : Nat) (w : World) (h : IntS w lo hi v zs) (hhi : hi ≤ w.heap.size)
    (hp : ∀ x ∈ zs, ∀ W, Below w.heap.size w W → Calls Tryd.prog f (#[.int .i64 x] ++ caps) W fun e w' => e = .returned (.bool (p x)) ∧ Below W.heap.size W w') :
    Calls Tryd.prog 38 #[v, .func (.func f) #[] caps] w fun e w' => e = .returned (.bool (zs.any p)) ∧ Below w.heap.size w w' := by
  have HC := Lib.hid (IndexFunc_int f caps eg p v zs lo hi w h hhi hp)
  obtain ⟨A, c, rfl⟩ := h.shape
  clear hp h eg
  go_enter Tryd.func38, Tryd.ntmps38
  go_wp2_with (go_at_call 43; refine HC.out.mono ?_; rintro e w' ⟨rfl, hb'⟩)
  go_ret
  exact ⟨ret_bool (fidx_any p zs), hb'⟩

theorem not_any_not {α : Type} (p : α → Bool) (zs : List α) : (!zs.any fun x => !p x) = zs.all p := by
  induction zs with
  | nil => rfl
  | cons x l ih => rw [List.any_cons, List.all_cons, ← ih]; cases p x <;> simp

theorem allWithin_any (v : Value) (zs : List Int) (a b : Int) (lo hi : Nat) (w : World) (h : IntS w lo hi v zs) (hhi : hi ≤ w.heap.size) :
    Calls Tryd.prog 28 #[v, .int .i64 a, .int .i64 b] w fun e w' => e = .returned (.bool (zs.all fun x => inB x a b)) ∧ Below w.heap.size w w' := by
  have hb0 := below_a2' w (.cells #[.int .i64 a] 3) (.cells #[.int .i64 b] 3)
  have hcl : ∀ x ∈ zs, ∀ W, Below ((w.alloc (.cells #[.int .i64 a] 3)).alloc (.cells #[.int .i64 b] 3)).heap.size ((w.alloc (.cells #[.int .i64 a] 3)).alloc (.cells #[.int .i64 b] 3)) W →
      Calls Tryd.prog 39 (#[.int .i64 x] ++ #[.pointer (some ⟨w.heap.size, 0, none⟩), .pointer (some ⟨w.heap.size + 1, 0, none⟩)]) W fun e w' => e = .returned (.bool (!inB x a b)) ∧ Below W.heap.size W w' := by
    intro x _ W hW
    have c0 : W.cell? ⟨w.heap.size, 0, none⟩ = some (.int .i64 a) := by
      rw [hW.cell (p := ⟨w.heap.size, 0, none⟩) (by simp; omega), World.cell?_alloc_past _ _ _ (by simp), World.cell?_alloc_at _ _ _ _ rfl]; rfl
    have c1 : W.cell? ⟨w.heap.size + 1, 0, none⟩ = some (.int .i64 b) := by
      rw [hW.cell (p := ⟨w.heap.size + 1, 0, none⟩) (by simp), World.cell?_alloc_at _ _ _ _ (by simp)]; rfl
    clear hW
    show Calls Tryd.prog 39 #[.int .i64 x, .pointer (some ⟨w.heap.size, 0, none⟩), .pointer (some ⟨w.heap.size + 1, 0, none⟩)] W _
    go_enter Tryd.func39, Tryd.ntmps39
    go_wp2_with (go_at_call 24; refine (within_any _ _ _ _).mono ?_; rintro e w' ⟨rfl, rfl⟩)
    go_ret
    exact ⟨rfl, Below.refl _ _⟩
  have HC := Lib.hid (ContainsFunc_int 39 _ (enters_of Tryd.func39 (by kernel_rfl) rfl) (fun x => !inB x a b) v zs lo hi _ (h.below hb0 hhi) (by simp; omega) hcl)
  obtain ⟨A, c, rfl⟩ := h.shape
  clear hcl h
  have hmf : ∀ (fn : Fn) (first cap : Array Value) (w : World), (Instr.makeFunc fn first cap).run Tryd.prog w = .ok (.func fn first cap) w := fun _ _ _ _ => rfl
  go_enter Tryd.func28, Tryd.ntmps28
  go_wp2_with (go_at_call 38; refine HC.out.mono ?_; rintro e w' ⟨rfl, hb'⟩)
  go_ret
  exact ⟨ret_bool (not_any_not _ _), hb0.trans (hb'.mono (by simp; omega))⟩

end Go.Proofs.YtbbdhcfbdndhlaaDoor
