/-
  One small lemma. No condition on any program.
-/
import Derived.Test.YtmdlginjblnfoaaMem
namespace Go.Proofs.Ytmdlginjblnfoaa
theorem ite_is {c : Prop} [Decidable c] {x y : Prop} (h : c) (k : x) : if c then x else y := by rw [if_pos h]; exact k
end Go.Proofs.Ytmdlginjblnfoaa
