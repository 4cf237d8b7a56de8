/-
  Contract of the program's IsNetwork.
-/
import Derived.Test.YtlignkgfclenkaaGood
import Derived.Test.YtlignkgfclenkaaExt
namespace Go.Proofs.Ytlignkgfclenkaa
open Go.ChangeShapes Go.WideShapes Go.ChangeAt Go.RowKit
set_option linter.unusedVariables false

end Go.Proofs.Ytlignkgfclenkaa
