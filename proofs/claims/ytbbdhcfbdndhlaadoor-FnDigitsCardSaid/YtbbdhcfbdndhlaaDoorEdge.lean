/-
  Contracts: the edges of a network (program and reference), stubs, and that a network has none.
-/
import Derived.Test.YtbbdhcfbdndhlaaDoorQuadP
import Derived.Test.YtbbdhcfbdndhlaaDoorExt
import Derived.Deep.Cut
namespace Go.Proofs.YtbbdhcfbdndhlaaDoor
open Go.ChangeShapes Go.WideShapes Go.ChangeAt Go.RowKit
set_option linter.unusedVariables false

theorem Tryd.infoRow : (Tryd.prog.info? 26).map (fun i => (i.zero, i.size, i.bytes)) = some (some (.slice none 0 0), 1, 24) := by kernel_rfl
theorem hid_and {p q : Prop} (h : p) (k : q) : Hid (p ∧ q) := Lib.hid ⟨h, k⟩

end Go.Proofs.YtbbdhcfbdndhlaaDoor
