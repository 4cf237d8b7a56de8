/-
  Contracts: stubs; that a network has no stubs (program and reference); the reference's edges.
-/
import Derived.Test.YtmdlginjblnfoaaEdge
import Derived.Test.YtmdlginjblnfoaaFind
import Derived.Test.YtmdlginjblnfoaaIsNet
namespace Go.Proofs.Ytmdlginjblnfoaa
open Go.ChangeShapes Go.WideShapes Go.ChangeAt Go.RowKit
set_option linter.unusedVariables false

theorem eql_end (a b c d : Int) (w : World) : (binOp .eql 56 (.agg #[.int .i64 a, .int .i64 b]) (.agg #[.int .i64 c, .int .i64 d])).run Try.prog w = .ok (.bool (a == c && b == d)) w := by
  rw [run_eql_struct, run_equalIn_agg _ _ _ _ _ (by kernel_rfl) (by kernel_rfl)]
  simp only [Program.fieldsOf, Try.underlying56]
  by_cases h1 : a = c <;> by_cases h2 : b = d <;> simp [go_sem, h1, h2, Try.underlying3]
theorem any_range_nthQ (l : List Quad) (p : Quad → Bool) : ((List.range l.length).any fun k => p (nthQ l k)) = l.any p := by
  rw [Bool.eq_iff_iff, List.any_eq_true, List.any_eq_true]
  constructor
  · rintro ⟨k, hk, hp⟩; exact ⟨_, nthQ_mem (List.mem_range.1 hk), hp⟩
  · rintro ⟨q, hq, hp⟩
    obtain ⟨k, hk, e⟩ := List.mem_iff_getElem.1 hq
    exact ⟨k, List.mem_range.2 hk, by rw [nthQ_eq hk, e]; exact hp⟩

end Go.Proofs.Ytmdlginjblnfoaa
