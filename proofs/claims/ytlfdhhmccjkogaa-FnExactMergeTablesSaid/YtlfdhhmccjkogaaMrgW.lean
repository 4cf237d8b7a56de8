/-
  MergeTables: both sides as the law's proof asks for them.
-/
import Derived.Test.YtlfdhhmccjkogaaMrgD
import Derived.Test.YtlfdhhmccjkogaaMrgP
import Derived.Test.YtlfdhhmccjkogaaMrgU
import Derived.Test.YtlfdhhmccjkogaaMrkT
namespace Go.Proofs.Ytlfdhhmccjkogaa
open Go.ChangeShapes Go.WideShapes Go.ChangeAt Go.RowKit
set_option linter.unusedVariables false

theorem ifTab_cnt (T : TabD) : (ifTab T).1.cnt ≤ 120 := by
  unfold ifTab
  split
  · rename_i h
    have := tab_few h
    show 2 * T.rows.length ≤ 120
    omega
  · show 2 * 0 ≤ 120
    omega
theorem mergeS_cnt (a b : TabD) : (mergeS a b).1.cnt ≤ 120 := by
  unfold mergeS
  split
  · split
    · exact ifTab_cnt _
    · show 2 * 0 ≤ 120
      omega
  · show 2 * 0 ≤ 120
    omega
theorem MergeTables_impl (v1 : Value) (a : TabD) (lo1 hi1 : Nat) (v2 : Value) (b : TabD) (lo2 hi2 : Nat) (w : World) (h1 : Tab w lo1 hi1 v1 a) (hh1 : hi1 ≤ w.heap.size) (h2 : Tab w lo2 hi2 v2 b) (hh2 : hi2 ≤ w.heap.size) (s1 : a.sz ≤ 1048576) (s2 : b.sz ≤ 1048576) (o1 : a.Ok) (o2 : b.Ok) :
    Calls Try.prog 7 #[v1, v2] w fun e w' => ∃ rv, e = .returned (.tuple #[rv, .bool (mergeS a b).2]) ∧ Tab w' w.heap.size w'.heap.size rv (mergeS a b).1 ∧ Below w.heap.size w w' := by
  rw [← mergeI_eq]
  exact MergeTables_impl0 v1 a lo1 hi1 v2 b lo2 hi2 w h1 hh1 h2 hh2
theorem MergeTables_spec (v1 : Value) (a : TabD) (lo1 hi1 : Nat) (v2 : Value) (b : TabD) (lo2 hi2 : Nat) (w : World) (h1 : Tab w lo1 hi1 v1 a) (hh1 : hi1 ≤ w.heap.size) (h2 : Tab w lo2 hi2 v2 b) (hh2 : hi2 ≤ w.heap.size) (s1 : a.sz ≤ 1048576) (s2 : b.sz ≤ 1048576) (o1 : a.Ok) (o2 : b.Ok) :
    Calls Try.prog 5 #[v1, v2] w fun e w' => ∃ rv, e = .returned (.tuple #[rv, .bool (mergeS a b).2]) ∧ Tab w' w.heap.size w'.heap.size rv (mergeS a b).1 ∧ Below w.heap.size w w' :=
  MergeTables_spec0 v1 a lo1 hi1 v2 b lo2 hi2 w h1 hh1 h2 hh2

end Go.Proofs.Ytlfdhhmccjkogaa
