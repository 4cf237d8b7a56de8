/-
  Plain: the rounds of colours, as a map of numbers and as a sum. No condition on any program.
-/
import Derived.Test.YtkobodoboeoaiaaDec
import Derived.Maps.OwnSet
import Derived.Maps.Views
import Derived.Maps.RangeWalk
namespace Go.Proofs.Ytkobodoboeoaiaa
set_option linter.unusedVariables false

/-- the rounds of colour x by the first k clusters -/
def rr (cs ds : List Int) (x : Int) : Nat → Int
  | 0 => 0
  | k + 1 => if nth cs k = x then max (rr cs ds x k) (1 + nth ds k) else rr cs ds x k
def hasC (cs : List Int) (x : Int) : Nat → Bool
  | 0 => false
  | k + 1 => hasC cs x k || decide (nth cs k = x)
/-- the greatest number of the first k clusters of colour x -/
def mr (cs ds : List Int) (x : Int) : Nat → Int
  | 0 => 0
  | k + 1 => if nth cs k = x then (if nth ds k < mr cs ds x k then mr cs ds x k else nth ds k) else mr cs ds x k
theorem hasC_iff {cs : List Int} {x : Int} : ∀ {k : Nat}, hasC cs x k = true ↔ ∃ j, j < k ∧ nth cs j = x
  | 0 => by simp [hasC]
  | k + 1 => by
    rw [hasC, Bool.or_eq_true, hasC_iff, decide_eq_true_eq]
    constructor
    · rintro (⟨j, hj, e⟩ | e)
      · exact ⟨j, by omega, e⟩
      · exact ⟨k, by omega, e⟩
    · rintro ⟨j, hj, e⟩
      by_cases ejk : j = k
      · subst ejk; exact .inr e
      · exact .inl ⟨j, by omega, e⟩
theorem rr_bound {cs ds : List Int} {x : Int} : ∀ {k : Nat}, (∀ j, j < k → 0 ≤ nth ds j ∧ nth ds j ≤ 40) → 0 ≤ rr cs ds x k ∧ rr cs ds x k ≤ 41
  | 0, _ => by simp [rr]
  | k + 1, h => by
    have h1 := rr_bound (x := x) (cs := cs) (k := k) (fun j hj => h j (by omega))
    have h2 := h k (by omega)
    rw [rr]
    split <;> omega
theorem mr_bound {cs ds : List Int} {x : Int} : ∀ {k : Nat}, (∀ j, j < k → 0 ≤ nth ds j ∧ nth ds j ≤ 40) → 0 ≤ mr cs ds x k ∧ mr cs ds x k ≤ 40
  | 0, _ => by simp [mr]
  | k + 1, h => by
    have h1 := mr_bound (x := x) (cs := cs) (k := k) (fun j hj => h j (by omega))
    have h2 := h k (by omega)
    rw [mr]
    split
    · split <;> omega
    · exact h1
theorem rr_none {cs ds : List Int} {x : Int} : ∀ {k : Nat}, hasC cs x k = false → rr cs ds x k = 0
  | 0, _ => rfl
  | k + 1, h => by
    rw [hasC, Bool.or_eq_false_iff, decide_eq_false_iff_not] at h
    rw [rr, if_neg h.2, rr_none h.1]
theorem mr_none {cs ds : List Int} {x : Int} : ∀ {k : Nat}, hasC cs x k = false → mr cs ds x k = 0
  | 0, _ => rfl
  | k + 1, h => by
    rw [hasC, Bool.or_eq_false_iff, decide_eq_false_iff_not] at h
    rw [mr, if_neg h.2, mr_none h.1]
theorem rr_mr {cs ds : List Int} {x : Int} : ∀ {k : Nat}, (∀ j, j < k → 0 ≤ nth ds j ∧ nth ds j ≤ 40) → hasC cs x k = true → rr cs ds x k = 1 + mr cs ds x k
  | 0, _, h => by simp [hasC] at h
  | k + 1, hb, h => by
    have h2 := hb k (by omega)
    have hb' : ∀ j, j < k → 0 ≤ nth ds j ∧ nth ds j ≤ 40 := fun j hj => hb j (by omega)
    rw [rr, mr]
    by_cases e : nth cs k = x
    · rw [if_pos e, if_pos e]
      cases hc : hasC cs x k with
      | true => rw [rr_mr hb' hc]; split <;> omega
      | false => rw [rr_none hc, mr_none hc]; split <;> omega
    · rw [if_neg e, if_neg e]
      rw [hasC, Bool.or_eq_true, decide_eq_true_eq] at h
      exact rr_mr hb' (h.resolve_right e)
/-- the sum of g at the numbers below n -/
def sumC (g : Int → Int) : Nat → Int
  | 0 => 0
  | n + 1 => sumC g n + g n
theorem sumC_bound {g : Int → Int} {B : Int} : ∀ {n : Nat}, (∀ x : Nat, x < n → 0 ≤ g x ∧ g x ≤ B) → 0 ≤ sumC g n ∧ sumC g n ≤ n * B
  | 0, _ => by simp [sumC]
  | n + 1, h => by
    have h1 := sumC_bound (n := n) (fun x hx => h x (by omega))
    have h2 := h n (by omega)
    rw [sumC]
    have e : ((n + 1 : Nat) : Int) * B = n * B + B := by push_cast; rw [Int.add_mul, Int.one_mul]
    rw [e]
    omega
theorem sumC_congr {g g' : Int → Int} : ∀ {n : Nat}, (∀ x : Nat, x < n → g x = g' x) → sumC g n = sumC g' n
  | 0, _ => rfl
  | n + 1, h => by rw [sumC, sumC, sumC_congr (fun x hx => h x (by omega)), h n (by omega)]
theorem sumC_upd {g g' : Int → Int} {a : Nat} : ∀ {n : Nat}, a < n → (∀ x : Nat, x < n → x ≠ a → g' x = g x) → g a = 0 → sumC g' n = sumC g n + g' a
  | 0, h, _, _ => by omega
  | n + 1, ha, h, h0 => by
    rw [sumC, sumC]
    by_cases e : a = n
    · subst e
      rw [sumC_congr (fun x hx => h x (by omega) (by omega)), h0]
      omega
    · rw [sumC_upd (by omega) (fun x hx => h x (by omega)) h0, h n (by omega) (by omega)]
      omega
theorem sumC_more {g : Int → Int} {n : Nat} : ∀ {k : Nat}, (∀ x : Nat, n ≤ x → x < n + k → g x = 0) → sumC g (n + k) = sumC g n
  | 0, _ => rfl
  | k + 1, h => by
    rw [show n + (k + 1) = (n + k) + 1 from rfl, sumC, sumC_more (fun x h1 h2 => h x h1 (by omega)), h (n + k) (by omega) (by omega)]
    omega
theorem sumC_zero {g : Int → Int} : ∀ {n : Nat}, (∀ x : Nat, x < n → g x = 0) → sumC g n = 0
  | 0, _ => rfl
  | n + 1, h => by rw [sumC, sumC_zero (fun x hx => h x (by omega)), h n (by omega)]; omega
theorem wf40 {x : Int} (h0 : 0 ≤ x) (h1 : x ≤ 40) : (Lit.int .i64 x).wf = true := by
  obtain ⟨k, rfl⟩ : ∃ k : Nat, x = k := ⟨x.toNat, by omega⟩
  have hk : k ≤ 40 := by omega
  clear h0 h1
  revert hk
  revert k
  decide
/-- the map reads as the rounds by the first k clusters -/
structure RdM (D : DataW Unit) (cs ds : List Int) (k : Nat) : Prop where
  isMap : Maps.IsMap D
  has : ∀ x : Int, Maps.has D (.int .i64 x) = hasC cs x k
  at_ : ∀ x : Int, D.atKey (.int .i64 x) (.lit (.int .i64 0)) = .lit (.int .i64 (rr cs ds x k))
theorem RdM.zero (cs ds : List Int) : RdM (.map []) cs ds 0 := ⟨⟨_, rfl⟩, fun x => rfl, fun x => rfl⟩
theorem RdM.put {D : DataW Unit} {cs ds : List Int} {k : Nat} (h : RdM D cs ds k) : RdM (D.put (.int .i64 (nth cs k)) (.lit (.int .i64 (max (rr cs ds (nth cs k) k) (1 + nth ds k))))) cs ds (k + 1) := by
  refine ⟨h.isMap.put _ _, fun x => ?_, fun x => ?_⟩
  · by_cases e : nth cs k = x
    · subst e
      rw [Maps.has_put_same h.isMap (show WideAt.IsKeyLit (.int .i64 _) from trivial), hasC, decide_eq_true rfl, Bool.or_true]
    · rw [Maps.has_put_other (fun e2 => by injection e2 with _ e2; exact e e2.symm), h.has, hasC, decide_eq_false e, Bool.or_false]
  · by_cases e : nth cs k = x
    · subst e
      rw [Maps.atKey_put_same h.isMap (show WideAt.IsKeyLit (.int .i64 _) from trivial), rr, if_pos rfl]
    · rw [Maps.atKey_put_other (fun e2 => by injection e2 with _ e2; exact e e2.symm), h.at_, rr, if_neg e]
/-- what has come, and what is still to come -/
def doneG (cs ds : List Int) (m : Nat) (left : Lit → Bool) (x : Int) : Int := if left (.int .i64 x) = true then 0 else rr cs ds x m
theorem doneG_bound {cs ds : List Int} {m : Nat} {left : Lit → Bool} {x : Int} (hb : ∀ j, j < m → 0 ≤ nth ds j ∧ nth ds j ≤ 40) : 0 ≤ doneG cs ds m left x ∧ doneG cs ds m left x ≤ 41 := by
  unfold doneG
  split
  · omega
  · exact rr_bound hb
theorem doneG_start {D : DataW Unit} {cs ds : List Int} {m : Nat} (h : RdM D cs ds m) : sumC (doneG cs ds m (Maps.has D)) 41 = 0 := sumC_zero fun x _ => by
  unfold doneG
  rw [h.has]
  split
  · rfl
  · rename_i h2; exact rr_none (by simpa using h2)
theorem doneG_end {cs ds : List Int} {m : Nat} {left : Lit → Bool} (h : ∀ kl, left kl = false) : sumC (doneG cs ds m left) 41 = sumC (fun x => rr cs ds x m) 41 := sumC_congr fun x _ => by
  unfold doneG; rw [h, if_neg (by simp)]
theorem doneG_next {cs ds : List Int} {m : Nat} {left : Lit → Bool} {a : Nat} (ha : a < 41) (hl : left (.int .i64 (a : Int)) = true) :
    sumC (doneG cs ds m (fun z => left z && !z.sameKey (.int .i64 (a : Int)))) 41 = sumC (doneG cs ds m left) 41 + rr cs ds a m := by
  have hs : (Lit.int .i64 (a : Int)).sameKey (.int .i64 (a : Int)) = true := WideAt.sameKey_self (show WideAt.IsKeyLit (.int .i64 _) from trivial)
  have e : doneG cs ds m (fun z => left z && !z.sameKey (.int .i64 (a : Int))) a = rr cs ds a m := by
    simp [doneG, hs]
  rw [← e]
  refine sumC_upd ha (fun x hx hne => ?_) (by unfold doneG; rw [if_pos hl])
  have hn : (Lit.int .i64 (x : Int)).sameKey (.int .i64 (a : Int)) = false := by
    rw [Bool.eq_false_iff]
    intro h
    have := WideAt.sameKey_eq h
    injection this with _ h2
    omega
  simp [doneG, hn]

end Go.Proofs.Ytkobodoboeoaiaa
