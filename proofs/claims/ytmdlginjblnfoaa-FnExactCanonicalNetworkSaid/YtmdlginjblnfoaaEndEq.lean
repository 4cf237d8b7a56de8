/-
  How two ends are compared.
-/
import Derived.Test.YtmdlginjblnfoaaRows
import Derived.WalkKit
import Derived.Laws.StructEq
import Derived.Outline
namespace Go.Proofs.Ytmdlginjblnfoaa
open Go.RowKit
theorem neq_end (a b c d : Int) (w : World) : (binOp .neq 56 (.agg #[.int .i64 a, .int .i64 b]) (.agg #[.int .i64 c, .int .i64 d])).run Try.prog w = .ok (.bool (!(a == c && b == d))) w := by
  rw [run_neq_struct, run_equalIn_agg _ _ _ _ _ (by kernel_rfl) (by kernel_rfl)]
  simp only [Program.fieldsOf, Try.underlying56]
  by_cases h1 : a = c <;> by_cases h2 : b = d <;> simp [go_sem, h1, h2, Try.underlying3]
end Go.Proofs.Ytmdlginjblnfoaa
