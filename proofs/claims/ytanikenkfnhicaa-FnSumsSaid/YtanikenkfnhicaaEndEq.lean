/-
  How two ends are compared.
-/
import Derived.Test.YtanikenkfnhicaaRows
import Derived.WalkKit
import Derived.Laws.StructEq
import Derived.Outline
namespace Go.Proofs.Ytanikenkfnhicaa
open Go.RowKit
end Go.Proofs.Ytanikenkfnhicaa
