/-
  Contract of the program's IsNetwork.
-/
import Derived.Test.YtbbdhcfbdndhlaaDoorGood
import Derived.Test.YtbbdhcfbdndhlaaDoorExt
namespace Go.Proofs.YtbbdhcfbdndhlaaDoor
open Go.ChangeShapes Go.WideShapes Go.ChangeAt Go.RowKit
set_option linter.unusedVariables false

end Go.Proofs.YtbbdhcfbdndhlaaDoor
