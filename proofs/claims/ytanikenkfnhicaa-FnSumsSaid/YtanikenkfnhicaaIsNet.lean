/-
  Contract of the program's IsNetwork.
-/
import Derived.Test.YtanikenkfnhicaaGood
import Derived.Test.YtanikenkfnhicaaExt
namespace Go.Proofs.Ytanikenkfnhicaa
open Go.ChangeShapes Go.WideShapes Go.ChangeAt Go.RowKit
set_option linter.unusedVariables false

end Go.Proofs.Ytanikenkfnhicaa
