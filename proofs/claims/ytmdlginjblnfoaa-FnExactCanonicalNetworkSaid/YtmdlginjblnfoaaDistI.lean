/-
  Contracts of the program's distancesFrom and allDistances.
-/
import Derived.Test.YtmdlginjblnfoaaDistS
namespace Go.Proofs.Ytmdlginjblnfoaa
open Go.ChangeShapes Go.WideShapes Go.ChangeAt Go.RowKit
set_option linter.unusedVariables false

theorem tail_one {w : World} {base n c : Nat} {A B : Option Addr} {zs : List Int} (h : OwnQ w base (.slice (if c = 1 then A else B) n (c - 1)) zs) (e : c = 1) : OwnQ w base (.slice A n 0) zs := by
  subst e; exact h
theorem tail_more {w : World} {base n c : Nat} {A B : Option Addr} {zs : List Int} (h : OwnQ w base (.slice (if c = 1 then A else B) n (c - 1)) zs) (e : ¬ c = 1) : OwnQ w base (.slice B n (c - 1)) zs := by
  rwa [if_neg e] at h

end Go.Proofs.Ytmdlginjblnfoaa
