/-
  No cell of these rows narrows 'for every input' (looked for: loops, veiled, ifaces, maps, wideKeys, modest, calm, conditions, laid).
  DERIVED. THE GIVEN ROWS OF THIS SEAT. 9 by the template 'for every input the law returns true; each argument reads behind the call as it read before'; 0 by the template 'total and deterministic' (their statements: YtkobodoboeoaiaaTotals.lean).
  GIVEN WITH THE SEED: the statements are not yours to turn. If you find one false, say at which input.
  Laid BY PROGRAM, IN A SANDBOX (cutbox-rows.mjs): the forced cells as the released guide's own fill.sh prints them over the translation 38e484d92072cd16… (all of the seat's roots in one cut). By AI agents, Wed Nov 11 2026. No macro, syntax, notation, axiom, sorry.
-/
import Derived.Test.YtkobodoboeoaiaaChecked
import GoSem.Claim
import GoSem.ClaimJoined
import GoSem.ClaimMapViews
import Derived.JoinedTies
import Derived.KernelRfl
namespace Go.Proofs.Ytkobodoboeoaiaa
/- THE CELL 'sum', in the pinned program and in every row, IS THE sha256 OF THE DUMP (.gsa) THAT YtkobodoboeoaiaaProg.lean LOADS. Nothing in Lean hashes anything: it is a label: what it is worth is what the hold of that sum in a sandbox is worth. -/
noncomputable def Try.pinned : Pinned := { name := "ytkobodoboeoaiaa", sum := "38e484d92072cd166402dcb44de72552b42fff6128fb6d082054cf1d5cb02ca4", checked := Try.checked }
namespace Rows
def none {H : Type} : Left H := { results := [], args := [] }

/-- 'laws.FnExactAdjacentClusters': WHATEVER THE INPUT: true; the input reads as it did. -/
def fnExactAdjacentClustersSpec : ChangeSpec := { name := "fnExactAdjacentClusters", fn := fun _ => fun
  | [d1, d2] => { results := [.lit (.bool true)], args := [d1, d2] }
  | _ => none }
def fnExactAdjacentClustersRow : OpenClaim := { program := "ytkobodoboeoaiaa", sum := "38e484d92072cd166402dcb44de72552b42fff6128fb6d082054cf1d5cb02ca4", func := "loop.example/g01084/laws.FnExactAdjacentClusters", spec := "fnExactAdjacentClusters", unfollowed := true, recurses := true, plainKeys := false, apart := false }
def FnExactAdjacentClustersSaid : Prop := fnExactAdjacentClustersRow.holds Try.pinned (OpenSpec.ofChange fnExactAdjacentClustersSpec)

/-- ITS FALSE NEIGHBOUR: 'it returns false'. Refute it at one input. -/
def fnExactAdjacentClustersWrong : ChangeSpec := { name := "fnExactAdjacentClusters", fn := fun _ => fun
  | [d1, d2] => { results := [.lit (.bool false)], args := [d1, d2] }
  | _ => none }
def FnExactAdjacentClustersWrongFalsely : Prop := fnExactAdjacentClustersRow.holds Try.pinned (OpenSpec.ofChange fnExactAdjacentClustersWrong)

/-- 'laws.FnExactColourClusters': WHATEVER THE INPUT: true; the input reads as it did. -/
def fnExactColourClustersSpec : ChangeSpec := { name := "fnExactColourClusters", fn := fun _ => fun
  | [d1, d2] => { results := [.lit (.bool true)], args := [d1, d2] }
  | _ => none }
def fnExactColourClustersRow : OpenClaim := { program := "ytkobodoboeoaiaa", sum := "38e484d92072cd166402dcb44de72552b42fff6128fb6d082054cf1d5cb02ca4", func := "loop.example/g01084/laws.FnExactColourClusters", spec := "fnExactColourClusters", unfollowed := true, recurses := true, plainKeys := false, apart := false }
def FnExactColourClustersSaid : Prop := fnExactColourClustersRow.holds Try.pinned (OpenSpec.ofChange fnExactColourClustersSpec)

/-- ITS FALSE NEIGHBOUR: 'it returns false'. Refute it at one input. -/
def fnExactColourClustersWrong : ChangeSpec := { name := "fnExactColourClusters", fn := fun _ => fun
  | [d1, d2] => { results := [.lit (.bool false)], args := [d1, d2] }
  | _ => none }
def FnExactColourClustersWrongFalsely : Prop := fnExactColourClustersRow.holds Try.pinned (OpenSpec.ofChange fnExactColourClustersWrong)

/-- 'laws.FnExactHeightsOf': WHATEVER THE INPUT: true; the input reads as it did. -/
def fnExactHeightsOfSpec : ChangeSpec := { name := "fnExactHeightsOf", fn := fun _ => fun
  | [d1, d2] => { results := [.lit (.bool true)], args := [d1, d2] }
  | _ => none }
def fnExactHeightsOfRow : OpenClaim := { program := "ytkobodoboeoaiaa", sum := "38e484d92072cd166402dcb44de72552b42fff6128fb6d082054cf1d5cb02ca4", func := "loop.example/g01084/laws.FnExactHeightsOf", spec := "fnExactHeightsOf", unfollowed := true, recurses := true, plainKeys := false, apart := false }
def FnExactHeightsOfSaid : Prop := fnExactHeightsOfRow.holds Try.pinned (OpenSpec.ofChange fnExactHeightsOfSpec)

/-- ITS FALSE NEIGHBOUR: 'it returns false'. Refute it at one input. -/
def fnExactHeightsOfWrong : ChangeSpec := { name := "fnExactHeightsOf", fn := fun _ => fun
  | [d1, d2] => { results := [.lit (.bool false)], args := [d1, d2] }
  | _ => none }
def FnExactHeightsOfWrongFalsely : Prop := fnExactHeightsOfRow.holds Try.pinned (OpenSpec.ofChange fnExactHeightsOfWrong)

/-- 'laws.FnExactClusterRounds': WHATEVER THE INPUT: true; the input reads as it did. -/
def fnExactClusterRoundsSpec : ChangeSpec := { name := "fnExactClusterRounds", fn := fun _ => fun
  | [d1, d2] => { results := [.lit (.bool true)], args := [d1, d2] }
  | _ => none }
def fnExactClusterRoundsRow : OpenClaim := { program := "ytkobodoboeoaiaa", sum := "38e484d92072cd166402dcb44de72552b42fff6128fb6d082054cf1d5cb02ca4", func := "loop.example/g01084/laws.FnExactClusterRounds", spec := "fnExactClusterRounds", unfollowed := true, recurses := true, plainKeys := false, apart := false }
def FnExactClusterRoundsSaid : Prop := fnExactClusterRoundsRow.holds Try.pinned (OpenSpec.ofChange fnExactClusterRoundsSpec)

/-- ITS FALSE NEIGHBOUR: 'it returns false'. Refute it at one input. -/
def fnExactClusterRoundsWrong : ChangeSpec := { name := "fnExactClusterRounds", fn := fun _ => fun
  | [d1, d2] => { results := [.lit (.bool false)], args := [d1, d2] }
  | _ => none }
def FnExactClusterRoundsWrongFalsely : Prop := fnExactClusterRoundsRow.holds Try.pinned (OpenSpec.ofChange fnExactClusterRoundsWrong)

/-- 'laws.FnExactTokenWalk': WHATEVER THE INPUT: true; the input reads as it did. -/
def fnExactTokenWalkSpec : ChangeSpec := { name := "fnExactTokenWalk", fn := fun _ => fun
  | [d1, d2] => { results := [.lit (.bool true)], args := [d1, d2] }
  | _ => none }
def fnExactTokenWalkRow : OpenClaim := { program := "ytkobodoboeoaiaa", sum := "38e484d92072cd166402dcb44de72552b42fff6128fb6d082054cf1d5cb02ca4", func := "loop.example/g01084/laws.FnExactTokenWalk", spec := "fnExactTokenWalk", unfollowed := true, recurses := true, plainKeys := false, apart := false }
def FnExactTokenWalkSaid : Prop := fnExactTokenWalkRow.holds Try.pinned (OpenSpec.ofChange fnExactTokenWalkSpec)

/-- ITS FALSE NEIGHBOUR: 'it returns false'. Refute it at one input. -/
def fnExactTokenWalkWrong : ChangeSpec := { name := "fnExactTokenWalk", fn := fun _ => fun
  | [d1, d2] => { results := [.lit (.bool false)], args := [d1, d2] }
  | _ => none }
def FnExactTokenWalkWrongFalsely : Prop := fnExactTokenWalkRow.holds Try.pinned (OpenSpec.ofChange fnExactTokenWalkWrong)

/-- 'laws.FnExactIsTokenWalk': WHATEVER THE INPUT: true; the input reads as it did. -/
def fnExactIsTokenWalkSpec : ChangeSpec := { name := "fnExactIsTokenWalk", fn := fun _ => fun
  | [d1, d2, d3] => { results := [.lit (.bool true)], args := [d1, d2, d3] }
  | _ => none }
def fnExactIsTokenWalkRow : OpenClaim := { program := "ytkobodoboeoaiaa", sum := "38e484d92072cd166402dcb44de72552b42fff6128fb6d082054cf1d5cb02ca4", func := "loop.example/g01084/laws.FnExactIsTokenWalk", spec := "fnExactIsTokenWalk", unfollowed := true, recurses := true, plainKeys := false, apart := false }
def FnExactIsTokenWalkSaid : Prop := fnExactIsTokenWalkRow.holds Try.pinned (OpenSpec.ofChange fnExactIsTokenWalkSpec)

/-- ITS FALSE NEIGHBOUR: 'it returns false'. Refute it at one input. -/
def fnExactIsTokenWalkWrong : ChangeSpec := { name := "fnExactIsTokenWalk", fn := fun _ => fun
  | [d1, d2, d3] => { results := [.lit (.bool false)], args := [d1, d2, d3] }
  | _ => none }
def FnExactIsTokenWalkWrongFalsely : Prop := fnExactIsTokenWalkRow.holds Try.pinned (OpenSpec.ofChange fnExactIsTokenWalkWrong)

/-- 'laws.FnExactStrongDiameter': WHATEVER THE INPUT: true; the input reads as it did. -/
def fnExactStrongDiameterSpec : ChangeSpec := { name := "fnExactStrongDiameter", fn := fun _ => fun
  | [d1, d2] => { results := [.lit (.bool true)], args := [d1, d2] }
  | _ => none }
def fnExactStrongDiameterRow : OpenClaim := { program := "ytkobodoboeoaiaa", sum := "38e484d92072cd166402dcb44de72552b42fff6128fb6d082054cf1d5cb02ca4", func := "loop.example/g01084/laws.FnExactStrongDiameter", spec := "fnExactStrongDiameter", unfollowed := true, recurses := true, plainKeys := false, apart := false }
def FnExactStrongDiameterSaid : Prop := fnExactStrongDiameterRow.holds Try.pinned (OpenSpec.ofChange fnExactStrongDiameterSpec)

/-- ITS FALSE NEIGHBOUR: 'it returns false'. Refute it at one input. -/
def fnExactStrongDiameterWrong : ChangeSpec := { name := "fnExactStrongDiameter", fn := fun _ => fun
  | [d1, d2] => { results := [.lit (.bool false)], args := [d1, d2] }
  | _ => none }
def FnExactStrongDiameterWrongFalsely : Prop := fnExactStrongDiameterRow.holds Try.pinned (OpenSpec.ofChange fnExactStrongDiameterWrong)

/-- 'laws.FnExactBallCarving': WHATEVER THE INPUT: true; the input reads as it did. -/
def fnExactBallCarvingSpec : ChangeSpec := { name := "fnExactBallCarving", fn := fun _ => fun
  | [d1, d2] => { results := [.lit (.bool true)], args := [d1, d2] }
  | _ => none }
def fnExactBallCarvingRow : OpenClaim := { program := "ytkobodoboeoaiaa", sum := "38e484d92072cd166402dcb44de72552b42fff6128fb6d082054cf1d5cb02ca4", func := "loop.example/g01084/laws.FnExactBallCarving", spec := "fnExactBallCarving", unfollowed := true, recurses := true, plainKeys := false, apart := false }
def FnExactBallCarvingSaid : Prop := fnExactBallCarvingRow.holds Try.pinned (OpenSpec.ofChange fnExactBallCarvingSpec)

/-- ITS FALSE NEIGHBOUR: 'it returns false'. Refute it at one input. -/
def fnExactBallCarvingWrong : ChangeSpec := { name := "fnExactBallCarving", fn := fun _ => fun
  | [d1, d2] => { results := [.lit (.bool false)], args := [d1, d2] }
  | _ => none }
def FnExactBallCarvingWrongFalsely : Prop := fnExactBallCarvingRow.holds Try.pinned (OpenSpec.ofChange fnExactBallCarvingWrong)

/-- 'laws.FnExactIsForestLabeling': WHATEVER THE INPUT: true; the input reads as it did. -/
def fnExactIsForestLabelingSpec : ChangeSpec := { name := "fnExactIsForestLabeling", fn := fun _ => fun
  | [d1, d2, d3] => { results := [.lit (.bool true)], args := [d1, d2, d3] }
  | _ => none }
def fnExactIsForestLabelingRow : OpenClaim := { program := "ytkobodoboeoaiaa", sum := "38e484d92072cd166402dcb44de72552b42fff6128fb6d082054cf1d5cb02ca4", func := "loop.example/g01084/laws.FnExactIsForestLabeling", spec := "fnExactIsForestLabeling", unfollowed := true, recurses := true, plainKeys := false, apart := false }
def FnExactIsForestLabelingSaid : Prop := fnExactIsForestLabelingRow.holds Try.pinned (OpenSpec.ofChange fnExactIsForestLabelingSpec)

/-- ITS FALSE NEIGHBOUR: 'it returns false'. Refute it at one input. -/
def fnExactIsForestLabelingWrong : ChangeSpec := { name := "fnExactIsForestLabeling", fn := fun _ => fun
  | [d1, d2, d3] => { results := [.lit (.bool false)], args := [d1, d2, d3] }
  | _ => none }
def FnExactIsForestLabelingWrongFalsely : Prop := fnExactIsForestLabelingRow.holds Try.pinned (OpenSpec.ofChange fnExactIsForestLabelingWrong)

/- THE SECOND FORM. 'bulk': how many values and letters a reading holds, each counted each time it is reached (what is shared counts as often as it is met; a slice's spare places count too). A statement '..UptoSaid' is the law's where the arguments, and the package variables that the reading takes, are together of bulk at most 1048576: NARROWER than '..Said'. Prove '..Said' where nothing that the law and all that it calls make is longer than what came in: it says more and counts as full. Else prove '..UptoSaid'. A law counts once. -/
mutual
def uptoBulk {H : Type} : DataW H → Nat
  | .lit (.string bytes) => bytes.length + 1
  | .lit _ => 1
  | .nil => 1
  | .ptr d => uptoBulk d + 1
  | .slice elems spare => uptoBulkAll elems + uptoBulkAll spare + 1
  | .agg parts => uptoBulkAll parts + 1
  | .iface _ d => uptoBulk d + 1
  | .map entries => uptoBulkEntries entries + 1
  | .held _ => 1
def uptoBulkAll {H : Type} : List (DataW H) → Nat
  | [] => 0
  | d :: r => uptoBulk d + uptoBulkAll r
def uptoBulkEntries {H : Type} : List (Lit × DataW H) → Nat
  | [] => 0
  | x :: r => uptoBulkEntry x + uptoBulkEntries r
def uptoBulkEntry {H : Type} : Lit × DataW H → Nat
  | (.string bytes, d) => bytes.length + uptoBulk d + 1
  | (_, d) => uptoBulk d + 1
 end
def uptoSmall : (H : Type) → List (DataW H) → Bool := fun _ ds => decide (uptoBulkAll ds ≤ 1048576)
def OpenSpec.upto (s : _root_.Go.ChangeSpec) : _root_.Go.OpenSpec := { _root_.Go.OpenSpec.ofChange s with cond := some uptoSmall }

/-- 'laws.FnExactAdjacentClusters', WHERE WHAT IT READS IS OF BULK AT MOST 1048576: true; the input reads as it did. -/
def fnExactAdjacentClustersUptoRow : OpenClaim := { program := "ytkobodoboeoaiaa", sum := "38e484d92072cd166402dcb44de72552b42fff6128fb6d082054cf1d5cb02ca4", func := "loop.example/g01084/laws.FnExactAdjacentClusters", spec := "fnExactAdjacentClusters", unfollowed := true, recurses := true, plainKeys := false, apart := false, narrowed := true }
def FnExactAdjacentClustersUptoSaid : Prop := fnExactAdjacentClustersUptoRow.holds Try.pinned (OpenSpec.upto fnExactAdjacentClustersSpec)

/-- 'laws.FnExactColourClusters', WHERE WHAT IT READS IS OF BULK AT MOST 1048576: true; the input reads as it did. -/
def fnExactColourClustersUptoRow : OpenClaim := { program := "ytkobodoboeoaiaa", sum := "38e484d92072cd166402dcb44de72552b42fff6128fb6d082054cf1d5cb02ca4", func := "loop.example/g01084/laws.FnExactColourClusters", spec := "fnExactColourClusters", unfollowed := true, recurses := true, plainKeys := false, apart := false, narrowed := true }
def FnExactColourClustersUptoSaid : Prop := fnExactColourClustersUptoRow.holds Try.pinned (OpenSpec.upto fnExactColourClustersSpec)

/-- 'laws.FnExactHeightsOf', WHERE WHAT IT READS IS OF BULK AT MOST 1048576: true; the input reads as it did. -/
def fnExactHeightsOfUptoRow : OpenClaim := { program := "ytkobodoboeoaiaa", sum := "38e484d92072cd166402dcb44de72552b42fff6128fb6d082054cf1d5cb02ca4", func := "loop.example/g01084/laws.FnExactHeightsOf", spec := "fnExactHeightsOf", unfollowed := true, recurses := true, plainKeys := false, apart := false, narrowed := true }
def FnExactHeightsOfUptoSaid : Prop := fnExactHeightsOfUptoRow.holds Try.pinned (OpenSpec.upto fnExactHeightsOfSpec)

/-- 'laws.FnExactClusterRounds', WHERE WHAT IT READS IS OF BULK AT MOST 1048576: true; the input reads as it did. -/
def fnExactClusterRoundsUptoRow : OpenClaim := { program := "ytkobodoboeoaiaa", sum := "38e484d92072cd166402dcb44de72552b42fff6128fb6d082054cf1d5cb02ca4", func := "loop.example/g01084/laws.FnExactClusterRounds", spec := "fnExactClusterRounds", unfollowed := true, recurses := true, plainKeys := false, apart := false, narrowed := true }
def FnExactClusterRoundsUptoSaid : Prop := fnExactClusterRoundsUptoRow.holds Try.pinned (OpenSpec.upto fnExactClusterRoundsSpec)

/-- 'laws.FnExactTokenWalk', WHERE WHAT IT READS IS OF BULK AT MOST 1048576: true; the input reads as it did. -/
def fnExactTokenWalkUptoRow : OpenClaim := { program := "ytkobodoboeoaiaa", sum := "38e484d92072cd166402dcb44de72552b42fff6128fb6d082054cf1d5cb02ca4", func := "loop.example/g01084/laws.FnExactTokenWalk", spec := "fnExactTokenWalk", unfollowed := true, recurses := true, plainKeys := false, apart := false, narrowed := true }
def FnExactTokenWalkUptoSaid : Prop := fnExactTokenWalkUptoRow.holds Try.pinned (OpenSpec.upto fnExactTokenWalkSpec)

/-- 'laws.FnExactIsTokenWalk', WHERE WHAT IT READS IS OF BULK AT MOST 1048576: true; the input reads as it did. -/
def fnExactIsTokenWalkUptoRow : OpenClaim := { program := "ytkobodoboeoaiaa", sum := "38e484d92072cd166402dcb44de72552b42fff6128fb6d082054cf1d5cb02ca4", func := "loop.example/g01084/laws.FnExactIsTokenWalk", spec := "fnExactIsTokenWalk", unfollowed := true, recurses := true, plainKeys := false, apart := false, narrowed := true }
def FnExactIsTokenWalkUptoSaid : Prop := fnExactIsTokenWalkUptoRow.holds Try.pinned (OpenSpec.upto fnExactIsTokenWalkSpec)

/-- 'laws.FnExactStrongDiameter', WHERE WHAT IT READS IS OF BULK AT MOST 1048576: true; the input reads as it did. -/
def fnExactStrongDiameterUptoRow : OpenClaim := { program := "ytkobodoboeoaiaa", sum := "38e484d92072cd166402dcb44de72552b42fff6128fb6d082054cf1d5cb02ca4", func := "loop.example/g01084/laws.FnExactStrongDiameter", spec := "fnExactStrongDiameter", unfollowed := true, recurses := true, plainKeys := false, apart := false, narrowed := true }
def FnExactStrongDiameterUptoSaid : Prop := fnExactStrongDiameterUptoRow.holds Try.pinned (OpenSpec.upto fnExactStrongDiameterSpec)

/-- 'laws.FnExactBallCarving', WHERE WHAT IT READS IS OF BULK AT MOST 1048576: true; the input reads as it did. -/
def fnExactBallCarvingUptoRow : OpenClaim := { program := "ytkobodoboeoaiaa", sum := "38e484d92072cd166402dcb44de72552b42fff6128fb6d082054cf1d5cb02ca4", func := "loop.example/g01084/laws.FnExactBallCarving", spec := "fnExactBallCarving", unfollowed := true, recurses := true, plainKeys := false, apart := false, narrowed := true }
def FnExactBallCarvingUptoSaid : Prop := fnExactBallCarvingUptoRow.holds Try.pinned (OpenSpec.upto fnExactBallCarvingSpec)

/-- 'laws.FnExactIsForestLabeling', WHERE WHAT IT READS IS OF BULK AT MOST 1048576: true; the input reads as it did. -/
def fnExactIsForestLabelingUptoRow : OpenClaim := { program := "ytkobodoboeoaiaa", sum := "38e484d92072cd166402dcb44de72552b42fff6128fb6d082054cf1d5cb02ca4", func := "loop.example/g01084/laws.FnExactIsForestLabeling", spec := "fnExactIsForestLabeling", unfollowed := true, recurses := true, plainKeys := false, apart := false, narrowed := true }
def FnExactIsForestLabelingUptoSaid : Prop := fnExactIsForestLabelingUptoRow.holds Try.pinned (OpenSpec.upto fnExactIsForestLabelingSpec)

end Rows
end Go.Proofs.Ytkobodoboeoaiaa
