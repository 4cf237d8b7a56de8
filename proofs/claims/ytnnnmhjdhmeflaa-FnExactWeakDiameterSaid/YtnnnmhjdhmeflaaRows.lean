/-
  No cell of these rows narrows 'for every input' (looked for: loops, veiled, ifaces, maps, wideKeys, modest, calm, conditions, laid).
  DERIVED. THE GIVEN ROWS OF THIS SEAT. 9 by the template 'for every input the law returns true; each argument reads behind the call as it read before'; 0 by the template 'total and deterministic' (their statements: YtnnnmhjdhmeflaaTotals.lean).
  GIVEN WITH THE SEED: the statements are not yours to turn. If you find one false, say at which input.
  Laid BY PROGRAM, IN A SANDBOX (cutbox-rows.mjs): the forced cells as the released guide's own fill.sh prints them over the translation 1f9aeb8038a6a749… (all of the seat's roots in one cut). By AI agents, Wed Nov 11 2026. No macro, syntax, notation, axiom, sorry.
-/
import Derived.Test.YtnnnmhjdhmeflaaChecked
import GoSem.Claim
import GoSem.ClaimJoined
import GoSem.ClaimMapViews
import Derived.JoinedTies
import Derived.KernelRfl
namespace Go.Proofs.Ytnnnmhjdhmeflaa
/- THE CELL 'sum', in the pinned program and in every row, IS THE sha256 OF THE DUMP (.gsa) THAT YtnnnmhjdhmeflaaProg.lean LOADS. Nothing in Lean hashes anything: it is a label: what it is worth is what the hold of that sum in a sandbox is worth. -/
noncomputable def Try.pinned : Pinned := { name := "ytnnnmhjdhmeflaa", sum := "1f9aeb8038a6a749fe0423e0ea10b6508424c0a514112fc737a7a1f94170f6f7", checked := Try.checked }
namespace Rows
def none {H : Type} : Left H := { results := [], args := [] }

/-- 'laws.FnExactIsDecomposition': WHATEVER THE INPUT: true; the input reads as it did. -/
def fnExactIsDecompositionSpec : ChangeSpec := { name := "fnExactIsDecomposition", fn := fun _ => fun
  | [d1, d2] => { results := [.lit (.bool true)], args := [d1, d2] }
  | _ => none }
def fnExactIsDecompositionRow : OpenClaim := { program := "ytnnnmhjdhmeflaa", sum := "1f9aeb8038a6a749fe0423e0ea10b6508424c0a514112fc737a7a1f94170f6f7", func := "loop.example/g01084/laws.FnExactIsDecomposition", spec := "fnExactIsDecomposition", unfollowed := true, recurses := true, plainKeys := false, apart := false }
def FnExactIsDecompositionSaid : Prop := fnExactIsDecompositionRow.holds Try.pinned (OpenSpec.ofChange fnExactIsDecompositionSpec)

/-- ITS FALSE NEIGHBOUR: 'it returns false'. Refute it at one input. -/
def fnExactIsDecompositionWrong : ChangeSpec := { name := "fnExactIsDecomposition", fn := fun _ => fun
  | [d1, d2] => { results := [.lit (.bool false)], args := [d1, d2] }
  | _ => none }
def FnExactIsDecompositionWrongFalsely : Prop := fnExactIsDecompositionRow.holds Try.pinned (OpenSpec.ofChange fnExactIsDecompositionWrong)

/-- 'laws.FnExactWeakDiameter': WHATEVER THE INPUT: true; the input reads as it did. -/
def fnExactWeakDiameterSpec : ChangeSpec := { name := "fnExactWeakDiameter", fn := fun _ => fun
  | [d1, d2] => { results := [.lit (.bool true)], args := [d1, d2] }
  | _ => none }
def fnExactWeakDiameterRow : OpenClaim := { program := "ytnnnmhjdhmeflaa", sum := "1f9aeb8038a6a749fe0423e0ea10b6508424c0a514112fc737a7a1f94170f6f7", func := "loop.example/g01084/laws.FnExactWeakDiameter", spec := "fnExactWeakDiameter", unfollowed := true, recurses := true, plainKeys := false, apart := false }
def FnExactWeakDiameterSaid : Prop := fnExactWeakDiameterRow.holds Try.pinned (OpenSpec.ofChange fnExactWeakDiameterSpec)

/-- ITS FALSE NEIGHBOUR: 'it returns false'. Refute it at one input. -/
def fnExactWeakDiameterWrong : ChangeSpec := { name := "fnExactWeakDiameter", fn := fun _ => fun
  | [d1, d2] => { results := [.lit (.bool false)], args := [d1, d2] }
  | _ => none }
def FnExactWeakDiameterWrongFalsely : Prop := fnExactWeakDiameterRow.holds Try.pinned (OpenSpec.ofChange fnExactWeakDiameterWrong)

/-- 'laws.FnExactClusterRounds': WHATEVER THE INPUT: true; the input reads as it did. -/
def fnExactClusterRoundsSpec : ChangeSpec := { name := "fnExactClusterRounds", fn := fun _ => fun
  | [d1, d2] => { results := [.lit (.bool true)], args := [d1, d2] }
  | _ => none }
def fnExactClusterRoundsRow : OpenClaim := { program := "ytnnnmhjdhmeflaa", sum := "1f9aeb8038a6a749fe0423e0ea10b6508424c0a514112fc737a7a1f94170f6f7", func := "loop.example/g01084/laws.FnExactClusterRounds", spec := "fnExactClusterRounds", unfollowed := true, recurses := true, plainKeys := false, apart := false }
def FnExactClusterRoundsSaid : Prop := fnExactClusterRoundsRow.holds Try.pinned (OpenSpec.ofChange fnExactClusterRoundsSpec)

/-- ITS FALSE NEIGHBOUR: 'it returns false'. Refute it at one input. -/
def fnExactClusterRoundsWrong : ChangeSpec := { name := "fnExactClusterRounds", fn := fun _ => fun
  | [d1, d2] => { results := [.lit (.bool false)], args := [d1, d2] }
  | _ => none }
def FnExactClusterRoundsWrongFalsely : Prop := fnExactClusterRoundsRow.holds Try.pinned (OpenSpec.ofChange fnExactClusterRoundsWrong)

/-- 'laws.FnExactAdjacentClusters': WHATEVER THE INPUT: true; the input reads as it did. -/
def fnExactAdjacentClustersSpec : ChangeSpec := { name := "fnExactAdjacentClusters", fn := fun _ => fun
  | [d1, d2] => { results := [.lit (.bool true)], args := [d1, d2] }
  | _ => none }
def fnExactAdjacentClustersRow : OpenClaim := { program := "ytnnnmhjdhmeflaa", sum := "1f9aeb8038a6a749fe0423e0ea10b6508424c0a514112fc737a7a1f94170f6f7", func := "loop.example/g01084/laws.FnExactAdjacentClusters", spec := "fnExactAdjacentClusters", unfollowed := true, recurses := true, plainKeys := false, apart := false }
def FnExactAdjacentClustersSaid : Prop := fnExactAdjacentClustersRow.holds Try.pinned (OpenSpec.ofChange fnExactAdjacentClustersSpec)

/-- ITS FALSE NEIGHBOUR: 'it returns false'. Refute it at one input. -/
def fnExactAdjacentClustersWrong : ChangeSpec := { name := "fnExactAdjacentClusters", fn := fun _ => fun
  | [d1, d2] => { results := [.lit (.bool false)], args := [d1, d2] }
  | _ => none }
def FnExactAdjacentClustersWrongFalsely : Prop := fnExactAdjacentClustersRow.holds Try.pinned (OpenSpec.ofChange fnExactAdjacentClustersWrong)

/-- 'laws.FnExactColourClusters': WHATEVER THE INPUT: true; the input reads as it did. -/
def fnExactColourClustersSpec : ChangeSpec := { name := "fnExactColourClusters", fn := fun _ => fun
  | [d1, d2] => { results := [.lit (.bool true)], args := [d1, d2] }
  | _ => none }
def fnExactColourClustersRow : OpenClaim := { program := "ytnnnmhjdhmeflaa", sum := "1f9aeb8038a6a749fe0423e0ea10b6508424c0a514112fc737a7a1f94170f6f7", func := "loop.example/g01084/laws.FnExactColourClusters", spec := "fnExactColourClusters", unfollowed := true, recurses := true, plainKeys := false, apart := false }
def FnExactColourClustersSaid : Prop := fnExactColourClustersRow.holds Try.pinned (OpenSpec.ofChange fnExactColourClustersSpec)

/-- ITS FALSE NEIGHBOUR: 'it returns false'. Refute it at one input. -/
def fnExactColourClustersWrong : ChangeSpec := { name := "fnExactColourClusters", fn := fun _ => fun
  | [d1, d2] => { results := [.lit (.bool false)], args := [d1, d2] }
  | _ => none }
def FnExactColourClustersWrongFalsely : Prop := fnExactColourClustersRow.holds Try.pinned (OpenSpec.ofChange fnExactColourClustersWrong)

/-- 'laws.FnExactHeightsOf': WHATEVER THE INPUT: true; the input reads as it did. -/
def fnExactHeightsOfSpec : ChangeSpec := { name := "fnExactHeightsOf", fn := fun _ => fun
  | [d1, d2] => { results := [.lit (.bool true)], args := [d1, d2] }
  | _ => none }
def fnExactHeightsOfRow : OpenClaim := { program := "ytnnnmhjdhmeflaa", sum := "1f9aeb8038a6a749fe0423e0ea10b6508424c0a514112fc737a7a1f94170f6f7", func := "loop.example/g01084/laws.FnExactHeightsOf", spec := "fnExactHeightsOf", unfollowed := true, recurses := true, plainKeys := false, apart := false }
def FnExactHeightsOfSaid : Prop := fnExactHeightsOfRow.holds Try.pinned (OpenSpec.ofChange fnExactHeightsOfSpec)

/-- ITS FALSE NEIGHBOUR: 'it returns false'. Refute it at one input. -/
def fnExactHeightsOfWrong : ChangeSpec := { name := "fnExactHeightsOf", fn := fun _ => fun
  | [d1, d2] => { results := [.lit (.bool false)], args := [d1, d2] }
  | _ => none }
def FnExactHeightsOfWrongFalsely : Prop := fnExactHeightsOfRow.holds Try.pinned (OpenSpec.ofChange fnExactHeightsOfWrong)

/-- 'laws.FnExactElectLeader': WHATEVER THE INPUT: true; the input reads as it did. -/
def fnExactElectLeaderSpec : ChangeSpec := { name := "fnExactElectLeader", fn := fun _ => fun
  | [d] => { results := [.lit (.bool true)], args := [d] }
  | _ => none }
def fnExactElectLeaderRow : OpenClaim := { program := "ytnnnmhjdhmeflaa", sum := "1f9aeb8038a6a749fe0423e0ea10b6508424c0a514112fc737a7a1f94170f6f7", func := "loop.example/g01084/laws.FnExactElectLeader", spec := "fnExactElectLeader", unfollowed := true, recurses := true, plainKeys := false, apart := false }
def FnExactElectLeaderSaid : Prop := fnExactElectLeaderRow.holds Try.pinned (OpenSpec.ofChange fnExactElectLeaderSpec)

/-- ITS FALSE NEIGHBOUR: 'it returns false'. Refute it at one input. -/
def fnExactElectLeaderWrong : ChangeSpec := { name := "fnExactElectLeader", fn := fun _ => fun
  | [d] => { results := [.lit (.bool false)], args := [d] }
  | _ => none }
def FnExactElectLeaderWrongFalsely : Prop := fnExactElectLeaderRow.holds Try.pinned (OpenSpec.ofChange fnExactElectLeaderWrong)

/-- 'laws.FnExactIsForestLabeling': WHATEVER THE INPUT: true; the input reads as it did. -/
def fnExactIsForestLabelingSpec : ChangeSpec := { name := "fnExactIsForestLabeling", fn := fun _ => fun
  | [d1, d2, d3] => { results := [.lit (.bool true)], args := [d1, d2, d3] }
  | _ => none }
def fnExactIsForestLabelingRow : OpenClaim := { program := "ytnnnmhjdhmeflaa", sum := "1f9aeb8038a6a749fe0423e0ea10b6508424c0a514112fc737a7a1f94170f6f7", func := "loop.example/g01084/laws.FnExactIsForestLabeling", spec := "fnExactIsForestLabeling", unfollowed := true, recurses := true, plainKeys := false, apart := false }
def FnExactIsForestLabelingSaid : Prop := fnExactIsForestLabelingRow.holds Try.pinned (OpenSpec.ofChange fnExactIsForestLabelingSpec)

/-- ITS FALSE NEIGHBOUR: 'it returns false'. Refute it at one input. -/
def fnExactIsForestLabelingWrong : ChangeSpec := { name := "fnExactIsForestLabeling", fn := fun _ => fun
  | [d1, d2, d3] => { results := [.lit (.bool false)], args := [d1, d2, d3] }
  | _ => none }
def FnExactIsForestLabelingWrongFalsely : Prop := fnExactIsForestLabelingRow.holds Try.pinned (OpenSpec.ofChange fnExactIsForestLabelingWrong)

/-- 'laws.FnExactGreedyDominating': WHATEVER THE INPUT: true; the input reads as it did. -/
def fnExactGreedyDominatingSpec : ChangeSpec := { name := "fnExactGreedyDominating", fn := fun _ => fun
  | [d] => { results := [.lit (.bool true)], args := [d] }
  | _ => none }
def fnExactGreedyDominatingRow : OpenClaim := { program := "ytnnnmhjdhmeflaa", sum := "1f9aeb8038a6a749fe0423e0ea10b6508424c0a514112fc737a7a1f94170f6f7", func := "loop.example/g01084/laws.FnExactGreedyDominating", spec := "fnExactGreedyDominating", unfollowed := true, recurses := true, plainKeys := false, apart := false }
def FnExactGreedyDominatingSaid : Prop := fnExactGreedyDominatingRow.holds Try.pinned (OpenSpec.ofChange fnExactGreedyDominatingSpec)

/-- ITS FALSE NEIGHBOUR: 'it returns false'. Refute it at one input. -/
def fnExactGreedyDominatingWrong : ChangeSpec := { name := "fnExactGreedyDominating", fn := fun _ => fun
  | [d] => { results := [.lit (.bool false)], args := [d] }
  | _ => none }
def FnExactGreedyDominatingWrongFalsely : Prop := fnExactGreedyDominatingRow.holds Try.pinned (OpenSpec.ofChange fnExactGreedyDominatingWrong)

/- THE SECOND FORM. 'bulk': how many values and letters a reading holds, each counted each time it is reached (what is shared counts as often as it is met; a slice's spare places count too). A statement '..UptoSaid' is the law's where the arguments, and the package variables that the reading takes, are together of bulk at most 1048576: NARROWER than '..Said'. Prove '..Said' where nothing that the law and all that it calls make is longer than what came in: it says more and counts as full. Else prove '..UptoSaid'. A law counts once. -/
mutual
def uptoBulk {H : Type} : DataW H → Nat
  | .lit (.string bytes) => bytes.length + 1
  | .lit _ => 1
  | .nil => 1
  | .ptr d => uptoBulk d + 1
  | .slice elems spare => uptoBulkAll elems + uptoBulkAll spare + 1
  | .agg parts => uptoBulkAll parts + 1
  | .iface _ d => uptoBulk d + 1
  | .map entries => uptoBulkEntries entries + 1
  | .held _ => 1
def uptoBulkAll {H : Type} : List (DataW H) → Nat
  | [] => 0
  | d :: r => uptoBulk d + uptoBulkAll r
def uptoBulkEntries {H : Type} : List (Lit × DataW H) → Nat
  | [] => 0
  | x :: r => uptoBulkEntry x + uptoBulkEntries r
def uptoBulkEntry {H : Type} : Lit × DataW H → Nat
  | (.string bytes, d) => bytes.length + uptoBulk d + 1
  | (_, d) => uptoBulk d + 1
 end
def uptoSmall : (H : Type) → List (DataW H) → Bool := fun _ ds => decide (uptoBulkAll ds ≤ 1048576)
def OpenSpec.upto (s : _root_.Go.ChangeSpec) : _root_.Go.OpenSpec := { _root_.Go.OpenSpec.ofChange s with cond := some uptoSmall }

/-- 'laws.FnExactIsDecomposition', WHERE WHAT IT READS IS OF BULK AT MOST 1048576: true; the input reads as it did. -/
def fnExactIsDecompositionUptoRow : OpenClaim := { program := "ytnnnmhjdhmeflaa", sum := "1f9aeb8038a6a749fe0423e0ea10b6508424c0a514112fc737a7a1f94170f6f7", func := "loop.example/g01084/laws.FnExactIsDecomposition", spec := "fnExactIsDecomposition", unfollowed := true, recurses := true, plainKeys := false, apart := false, narrowed := true }
def FnExactIsDecompositionUptoSaid : Prop := fnExactIsDecompositionUptoRow.holds Try.pinned (OpenSpec.upto fnExactIsDecompositionSpec)

/-- 'laws.FnExactWeakDiameter', WHERE WHAT IT READS IS OF BULK AT MOST 1048576: true; the input reads as it did. -/
def fnExactWeakDiameterUptoRow : OpenClaim := { program := "ytnnnmhjdhmeflaa", sum := "1f9aeb8038a6a749fe0423e0ea10b6508424c0a514112fc737a7a1f94170f6f7", func := "loop.example/g01084/laws.FnExactWeakDiameter", spec := "fnExactWeakDiameter", unfollowed := true, recurses := true, plainKeys := false, apart := false, narrowed := true }
def FnExactWeakDiameterUptoSaid : Prop := fnExactWeakDiameterUptoRow.holds Try.pinned (OpenSpec.upto fnExactWeakDiameterSpec)

/-- 'laws.FnExactClusterRounds', WHERE WHAT IT READS IS OF BULK AT MOST 1048576: true; the input reads as it did. -/
def fnExactClusterRoundsUptoRow : OpenClaim := { program := "ytnnnmhjdhmeflaa", sum := "1f9aeb8038a6a749fe0423e0ea10b6508424c0a514112fc737a7a1f94170f6f7", func := "loop.example/g01084/laws.FnExactClusterRounds", spec := "fnExactClusterRounds", unfollowed := true, recurses := true, plainKeys := false, apart := false, narrowed := true }
def FnExactClusterRoundsUptoSaid : Prop := fnExactClusterRoundsUptoRow.holds Try.pinned (OpenSpec.upto fnExactClusterRoundsSpec)

/-- 'laws.FnExactAdjacentClusters', WHERE WHAT IT READS IS OF BULK AT MOST 1048576: true; the input reads as it did. -/
def fnExactAdjacentClustersUptoRow : OpenClaim := { program := "ytnnnmhjdhmeflaa", sum := "1f9aeb8038a6a749fe0423e0ea10b6508424c0a514112fc737a7a1f94170f6f7", func := "loop.example/g01084/laws.FnExactAdjacentClusters", spec := "fnExactAdjacentClusters", unfollowed := true, recurses := true, plainKeys := false, apart := false, narrowed := true }
def FnExactAdjacentClustersUptoSaid : Prop := fnExactAdjacentClustersUptoRow.holds Try.pinned (OpenSpec.upto fnExactAdjacentClustersSpec)

/-- 'laws.FnExactColourClusters', WHERE WHAT IT READS IS OF BULK AT MOST 1048576: true; the input reads as it did. -/
def fnExactColourClustersUptoRow : OpenClaim := { program := "ytnnnmhjdhmeflaa", sum := "1f9aeb8038a6a749fe0423e0ea10b6508424c0a514112fc737a7a1f94170f6f7", func := "loop.example/g01084/laws.FnExactColourClusters", spec := "fnExactColourClusters", unfollowed := true, recurses := true, plainKeys := false, apart := false, narrowed := true }
def FnExactColourClustersUptoSaid : Prop := fnExactColourClustersUptoRow.holds Try.pinned (OpenSpec.upto fnExactColourClustersSpec)

/-- 'laws.FnExactHeightsOf', WHERE WHAT IT READS IS OF BULK AT MOST 1048576: true; the input reads as it did. -/
def fnExactHeightsOfUptoRow : OpenClaim := { program := "ytnnnmhjdhmeflaa", sum := "1f9aeb8038a6a749fe0423e0ea10b6508424c0a514112fc737a7a1f94170f6f7", func := "loop.example/g01084/laws.FnExactHeightsOf", spec := "fnExactHeightsOf", unfollowed := true, recurses := true, plainKeys := false, apart := false, narrowed := true }
def FnExactHeightsOfUptoSaid : Prop := fnExactHeightsOfUptoRow.holds Try.pinned (OpenSpec.upto fnExactHeightsOfSpec)

/-- 'laws.FnExactElectLeader', WHERE WHAT IT READS IS OF BULK AT MOST 1048576: true; the input reads as it did. -/
def fnExactElectLeaderUptoRow : OpenClaim := { program := "ytnnnmhjdhmeflaa", sum := "1f9aeb8038a6a749fe0423e0ea10b6508424c0a514112fc737a7a1f94170f6f7", func := "loop.example/g01084/laws.FnExactElectLeader", spec := "fnExactElectLeader", unfollowed := true, recurses := true, plainKeys := false, apart := false, narrowed := true }
def FnExactElectLeaderUptoSaid : Prop := fnExactElectLeaderUptoRow.holds Try.pinned (OpenSpec.upto fnExactElectLeaderSpec)

/-- 'laws.FnExactIsForestLabeling', WHERE WHAT IT READS IS OF BULK AT MOST 1048576: true; the input reads as it did. -/
def fnExactIsForestLabelingUptoRow : OpenClaim := { program := "ytnnnmhjdhmeflaa", sum := "1f9aeb8038a6a749fe0423e0ea10b6508424c0a514112fc737a7a1f94170f6f7", func := "loop.example/g01084/laws.FnExactIsForestLabeling", spec := "fnExactIsForestLabeling", unfollowed := true, recurses := true, plainKeys := false, apart := false, narrowed := true }
def FnExactIsForestLabelingUptoSaid : Prop := fnExactIsForestLabelingUptoRow.holds Try.pinned (OpenSpec.upto fnExactIsForestLabelingSpec)

/-- 'laws.FnExactGreedyDominating', WHERE WHAT IT READS IS OF BULK AT MOST 1048576: true; the input reads as it did. -/
def fnExactGreedyDominatingUptoRow : OpenClaim := { program := "ytnnnmhjdhmeflaa", sum := "1f9aeb8038a6a749fe0423e0ea10b6508424c0a514112fc737a7a1f94170f6f7", func := "loop.example/g01084/laws.FnExactGreedyDominating", spec := "fnExactGreedyDominating", unfollowed := true, recurses := true, plainKeys := false, apart := false, narrowed := true }
def FnExactGreedyDominatingUptoSaid : Prop := fnExactGreedyDominatingUptoRow.holds Try.pinned (OpenSpec.upto fnExactGreedyDominatingSpec)

end Rows
end Go.Proofs.Ytnnnmhjdhmeflaa
