/-
  No contract of Go's library is laid for this seat: the text holds nothing. No condition on any program.
-/
import Derived.Test.YtanikenkfnhicaaProg
namespace Go.Proofs
end Go.Proofs
