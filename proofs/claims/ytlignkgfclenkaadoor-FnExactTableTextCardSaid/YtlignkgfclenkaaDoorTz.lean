/-
  The reference's side of CutView and ChildView.
-/
import Derived.Test.YtlignkgfclenkaaDoorVz
import Derived.Test.YtlignkgfclenkaaDoorTxV
import Derived.Test.YtlignkgfclenkaaDoorExt
import Derived.Laws.IdiomStrings
import Derived.Laws.Concat
import Derived.Deep.RegionHeld3
namespace Go.Proofs.YtlignkgfclenkaaDoor
open Go.ChangeShapes Go.WideShapes Go.ChangeAt Go.RowKit
set_option linter.unusedVariables false

/-- bytes as a string -/
def strL (l : List UInt8) : ByteArray := ⟨l.toArray⟩
theorem strL_app (a b : List UInt8) : strL a ++ strL b = strL (a ++ b) := by
  apply ByteArray.ext
  simp [strL]
theorem txtS_eq (n : Nat) (t : VT) : txtS n t = strL (txt n t) := rfl

set_option maxHeartbeats 1000000 in
set_option maxRecDepth 100000 in
theorem l1Num_dig (n : Nat) (w : World) (hn : n ≤ 9) : Calls Tryd.prog 53 #[.int .i64 (n : Nat)] w fun e w' => e = .returned (.string (strL [dig n])) ∧ Below w.heap.size w w' := by
  have hd := dig_nat hn
  have hconv : ∀ W : World, (convert 34 9 (.slice (some ⟨W.heap.size, 0, none⟩) 1 1)).run Tryd.prog (W.alloc (.cells #[.int .u8 (48 + (n : Int))] 5)) = .ok (.string (strL [dig n])) (W.alloc (.cells #[.int .u8 (48 + (n : Int))] 5)) := fun W =>
    run_convert_bytes_back _ 34 9 5 ⟨W.heap.size, 0, none⟩ 1 [dig n] Tryd.underlying34 Tryd.underlying5 Tryd.underlying9 (fun j hj => by
      obtain rfl : j = 0 := by simp at hj; omega
      simp [Addr.add, hd])
  go_enter Tryd.func53, Tryd.ntmps53
  go_wp2_with fail
  go_ret
  exact ⟨rfl, (Below.refl _ _).alloc (Nat.le_refl _) _⟩
theorem l1In_any (n lo hi : Int) (w : World) :
    Calls Tryd.prog 41 #[.int .i64 n, .int .i64 lo, .int .i64 hi] w fun e w' => e = .returned (.bool (inB n lo hi)) ∧ w = w' := by
  by_cases h1 : lo ≤ n
  · go_enter Tryd.func41, Tryd.ntmps41
    go_wp2
    go_ret
    exact ⟨by simp [inB, h1], rfl⟩
  · have h1' : n < lo := by omega
    go_enter Tryd.func41, Tryd.ntmps41
    go_wp2
    go_ret
    exact ⟨ret_bool (by unfold inB; rw [decide_eq_false (show ¬ lo ≤ n by omega)]; rfl), rfl⟩
theorem ret_str {a b : ByteArray} (h : b = a) : Ending.returned (.string a) = .returned (.string b) := by rw [h]
theorem add_str {P : Program} {a b c : List UInt8} {s r : ByteArray} (hs : s = strL a) (hr : r = strL b) (h : a.length + b.length ≤ 100000) (hc : a ++ b = c) (w : World) : (Op.stringOp .add s r).run P w = .ok (.string (strL c)) w := by
  subst hc; subst hs; subst hr
  exact run_string_add_lists w a b (by omega) (by omega)

end Go.Proofs.YtlignkgfclenkaaDoor
