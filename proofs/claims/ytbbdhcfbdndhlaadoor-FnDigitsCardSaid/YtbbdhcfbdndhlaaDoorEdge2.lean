/-
  Contracts: stubs; that a network has no stubs (program and reference); the reference's edges.
-/
import Derived.Test.YtbbdhcfbdndhlaaDoorEdge
import Derived.Test.YtbbdhcfbdndhlaaDoorFind
import Derived.Test.YtbbdhcfbdndhlaaDoorIsNet
namespace Go.Proofs.YtbbdhcfbdndhlaaDoor
open Go.ChangeShapes Go.WideShapes Go.ChangeAt Go.RowKit
set_option linter.unusedVariables false

theorem any_range_nthQ (l : List Quad) (p : Quad → Bool) : ((List.range l.length).any fun k => p (nthQ l k)) = l.any p := by
  rw [Bool.eq_iff_iff, List.any_eq_true, List.any_eq_true]
  constructor
  · rintro ⟨k, hk, hp⟩; exact ⟨_, nthQ_mem (List.mem_range.1 hk), hp⟩
  · rintro ⟨q, hq, hp⟩
    obtain ⟨k, hk, e⟩ := List.mem_iff_getElem.1 hq
    exact ⟨k, List.mem_range.2 hk, by rw [nthQ_eq hk, e]; exact hp⟩

end Go.Proofs.YtbbdhcfbdndhlaaDoor
