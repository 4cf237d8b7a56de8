/-
  Contracts of small functions: numbers in order, lists of -1, the numbers of neighbours, ports with a number.
-/
import Derived.Test.YtcmmklcampmkjaaBoolS
import Derived.Test.YtcmmklcampmkjaaOri2
namespace Go.Proofs.Ytcmmklcampmkjaa
open Go.ChangeShapes Go.WideShapes Go.ChangeAt Go.RowKit
set_option linter.unusedVariables false

def upTo (n : Nat) : List Int := (List.range n).map fun (k : Nat) => (k : Int)
theorem upTo_length (n : Nat) : (upTo n).length = n := by simp [upTo]
theorem nth_upTo {n k : Nat} (h : k < n) : nth (upTo n) k = k := by simp [nth, upTo, h]
theorem set_fold {n k : Nat} {f : Nat → Int} {zs : List Int} (hl : zs.length = n) (hk : k < n) (h : ∀ j, j < n → nth zs j = if j < k then f j else 0) : ∀ j, j < n → nth (zs.set k (f k)) j = if j < k + 1 then f j else 0 := fun j hj => by
  rw [nth_set _ _ _ _ (by omega)]
  by_cases e : j = k
  · rw [if_pos e, if_pos (by omega), e]
  · rw [if_neg e, h j hj]
    by_cases e2 : j < k
    · rw [if_pos e2, if_pos (by omega)]
    · rw [if_neg e2, if_neg (by omega)]
/-- the numbers that a list gives to the neighbours -/
def nears (N : NetD) (v : Nat) (l : List Int) : List Int := (nbs N v).map fun x => nth l x.toNat
theorem nears_length (N : NetD) (v : Nat) (l : List Int) : (nears N v l).length = (nthL N.ends v).length := by simp [nears, nbs_length]
theorem nth_nears {N : NetD} {v i : Nat} (l : List Int) (h : i < (nthL N.ends v).length) : nth (nears N v l) i = nth l (nthE (nthL N.ends v) i).1.toNat := by
  rw [← nth_nbs N v h]
  simp [nth, nears, nbs_length, h]
def cntI (c : Int) (zs : List Int) : Nat := (zs.filter fun x => x == c).length
theorem cntI_le (c : Int) (zs : List Int) : cntI c zs ≤ zs.length := List.length_filter_le _ _
theorem cntI_take {c : Int} {zs : List Int} {k : Nat} (h : k < zs.length) : cntI c (zs.take (k + 1)) = cntI c (zs.take k) + if nth zs k = c then 1 else 0 := by
  unfold cntI
  rw [List.take_succ_eq_append_getElem h, List.filter_append, List.length_append, nth_eq h]
  by_cases e : zs[k] = c <;> simp [e]
def portsC (N : NetD) (v : Nat) (l : List Int) (c : Int) : Nat := cntI c (nears N v l)
theorem portsC_le (N : NetD) (v : Nat) (l : List Int) (c : Int) : portsC N v l c ≤ (nthL N.ends v).length := by have := cntI_le c (nears N v l); rw [nears_length] at this; exact this

set_option maxHeartbeats 4000000 in
set_option maxRecDepth 100000 in
theorem numbersTo_any (n : Nat) (w : World)  (hn : n ≤ 1048576) :
    Calls Try.prog 32 #[.int .i64 (n : Nat)] w fun e w' => ∃ r, e = .returned (r) ∧ IntS w' w.heap.size w'.heap.size r (upTo n) ∧ Below w.heap.size w w' := by
  have hmk := fun W => run_make_row' (P := Try.prog) 23 3 (.int .i64 0) 8 Try.underlying23 Try.info3 rfl .i64 .i64 n (by omega) (by omega) W
  go_enter Try.func32, Try.ntmps32
  go_wp2_with fail
  refine nameC ?_
  intro W1 HW1
  have hg1 : w.grownBy W1 none := by rw [HW1.out]; exact grown_alloc _ _
  have hs1 := hg1.size
  have HF1 := Lib.hid ((Turned.refl w.heap.size w.heap.size w).still hg1)
  have HO := Lib.hid (show IntS W1 w.heap.size (w.heap.size + 1) (.slice (some ⟨w.heap.size, 0, none⟩) n n) (List.replicate n 0) by rw [HW1.out]; exact made_ints _ _ _ rfl (by omega))
  have hz : w.heap.size + 1 ≤ W1.heap.size := by rw [HW1.out]; simp
  clear HW1 hmk
  go_loopw [9] (fun i wr => ∃ (k : Nat) (zs : List Int), k ≤ n ∧ i = .int .i64 k ∧ Hid (IntS wr w.heap.size (w.heap.size + 1) (.slice (some ⟨w.heap.size, 0, none⟩) n n) zs) ∧ Hid (zs.length = n) ∧ Hid (∀ j, j < n → nth zs j = if j < k then (fun j => (j : Int)) j else 0) ∧ w.heap.size + 1 ≤ wr.heap.size ∧ Hid (Turned w.heap.size w.heap.size w wr)) (fun i _ => n - (intOf i).toNat)
  case atStart => exact ⟨0, List.replicate n 0, Nat.zero_le _, rfl, HO, Lib.hid (by simp), Lib.hid fun j hj => by rw [nth_replicate _ _ hj]; simp, hz, HF1⟩
  case round =>
    clear HF1
    obtain ⟨k, zs, hk, rfl, HO, HL, HZ, hz, HF2⟩ := hrel
    have hs2 := HF2.out.size
    by_cases hlt : k < n
    case neg =>
      obtain rfl : k = n := by omega
      go_wp2_with fail
      go_ret
      refine ⟨_, rfl, ?_, (HF2.out.below_of (Below.refl _ _) (by omega) (by omega))⟩
      have e : upTo k = zs := ext_nth (by rw [HL.out]; simp [upTo]) fun j hj => by
        have hj' : j < k := by simpa [upTo] using hj
        rw [HZ.out j hj', if_pos hj']
        first | exact nth_upTo hj' | exact nth_replicate _ _ hj'
      rw [e]
      exact HO.out.mono (Nat.le_refl _) hz
    obtain ⟨x1, x2⟩ := HO.out.at0 (j := k) (by rw [HL.out]; exact hlt)
    have hs := HO.out.set0 (j := k) (by rw [HL.out]; exact hlt) ((fun j => (j : Int)) k)
    have HS := Lib.hid hs; clear hs
    obtain ⟨y, HY⟩ : ∃ y, Hid (nth zs k = y) := ⟨_, Lib.hid rfl⟩
    rw [HY.out] at x1
    go_wp2_with fail
    go_roundw
    case rel => exact ⟨k + 1, _, by omega, by go_num, HS, Lib.hid (by rw [List.length_set]; exact HL.out), Lib.hid (set_fold HL.out hlt HZ.out), by rw [size_setCell]; exact hz, Lib.hid (HF2.out.grown (grown_set _ ⟨w.heap.size, k, none⟩ _) fun g hg => .inr (by cases hg; exact Nat.le_refl _))⟩
    case measure => simp [intOf]; omega

end Go.Proofs.Ytcmmklcampmkjaa
