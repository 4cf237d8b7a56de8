/-
  Contracts of small functions: numbers in order, lists of -1, the numbers of neighbours, ports with a number.
-/
import Derived.Test.YtbbdhcfbdndhlaaDoorBoolS
import Derived.Test.YtbbdhcfbdndhlaaDoorOri2
namespace Go.Proofs.YtbbdhcfbdndhlaaDoor
open Go.ChangeShapes Go.WideShapes Go.ChangeAt Go.RowKit
set_option linter.unusedVariables false

def upTo (n : Nat) : List Int := (List.range n).map fun (k : Nat) => (k : Int)
theorem upTo_length (n : Nat) : (upTo n).length = n := by simp [upTo]
theorem nth_upTo {n k : Nat} (h : k < n) : nth (upTo n) k = k := by simp [nth, upTo, h]
theorem set_fold {n k : Nat} {f : Nat → Int} {zs : List Int} (hl : zs.length = n) (hk : k < n) (h : ∀ j, j < n → nth zs j = if j < k then f j else 0) : ∀ j, j < n → nth (zs.set k (f k)) j = if j < k + 1 then f j else 0 := fun j hj => by
  rw [nth_set _ _ _ _ (by omega)]
  by_cases e : j = k
  · rw [if_pos e, if_pos (by omega), e]
  · rw [if_neg e, h j hj]
    by_cases e2 : j < k
    · rw [if_pos e2, if_pos (by omega)]
    · rw [if_neg e2, if_neg (by omega)]
/-- the numbers that a list gives to the neighbours -/
def nears (N : NetD) (v : Nat) (l : List Int) : List Int := (nbs N v).map fun x => nth l x.toNat
theorem nears_length (N : NetD) (v : Nat) (l : List Int) : (nears N v l).length = (nthL N.ends v).length := by simp [nears, nbs_length]
theorem nth_nears {N : NetD} {v i : Nat} (l : List Int) (h : i < (nthL N.ends v).length) : nth (nears N v l) i = nth l (nthE (nthL N.ends v) i).1.toNat := by
  rw [← nth_nbs N v h]
  simp [nth, nears, nbs_length, h]
def cntI (c : Int) (zs : List Int) : Nat := (zs.filter fun x => x == c).length
theorem cntI_le (c : Int) (zs : List Int) : cntI c zs ≤ zs.length := List.length_filter_le _ _
theorem cntI_take {c : Int} {zs : List Int} {k : Nat} (h : k < zs.length) : cntI c (zs.take (k + 1)) = cntI c (zs.take k) + if nth zs k = c then 1 else 0 := by
  unfold cntI
  rw [List.take_succ_eq_append_getElem h, List.filter_append, List.length_append, nth_eq h]
  by_cases e : zs[k] = c <;> simp [e]
def portsC (N : NetD) (v : Nat) (l : List Int) (c : Int) : Nat := cntI c (nears N v l)
theorem portsC_le (N : NetD) (v : Nat) (l : List Int) (c : Int) : portsC N v l c ≤ (nthL N.ends v).length := by have := cntI_le c (nears N v l); rw [nears_length] at this; exact this

end Go.Proofs.YtbbdhcfbdndhlaaDoor
