/-
  How two ends are compared.
-/
import Derived.Test.YtbbdhcfbdndhlaaDoorRows
import Derived.WalkKit
import Derived.Laws.StructEq
import Derived.Outline
namespace Go.Proofs.YtbbdhcfbdndhlaaDoor
open Go.RowKit
end Go.Proofs.YtbbdhcfbdndhlaaDoor
