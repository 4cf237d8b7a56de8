/-
  No cell of these rows narrows 'for every input' (looked for: loops, veiled, ifaces, maps, wideKeys, modest, calm, conditions, laid).
  DERIVED. THE GIVEN ROWS OF THIS SEAT. 12 by the template 'for every input the law returns true; each argument reads behind the call as it read before'; 0 by the template 'total and deterministic' (their statements: YtoebgfmnjjiddaaTotals.lean).
  GIVEN WITH THE SEED: the statements are not yours to turn. If you find one false, say at which input.
  Laid BY PROGRAM, IN A SANDBOX (cutbox-rows.mjs): the forced cells as the released guide's own fill.sh prints them over the translation 414e02d5c9be3785… (all of the seat's roots in one cut). By AI agents, Wed Nov 11 2026. No macro, syntax, notation, axiom, sorry.
-/
import Derived.Test.YtoebgfmnjjiddaaChecked
import GoSem.Claim
import GoSem.ClaimJoined
import GoSem.ClaimMapViews
import Derived.JoinedTies
import Derived.KernelRfl
namespace Go.Proofs.Ytoebgfmnjjiddaa
/- THE CELL 'sum', in the pinned program and in every row, IS THE sha256 OF THE DUMP (.gsa) THAT YtoebgfmnjjiddaaProg.lean LOADS. Nothing in Lean hashes anything: it is a label: what it is worth is what the hold of that sum in a sandbox is worth. -/
noncomputable def Try.pinned : Pinned := { name := "ytoebgfmnjjiddaa", sum := "414e02d5c9be37850fb35c4c667058f87bb0412ab5f970a02a7c8ef4b462f892", checked := Try.checked }
namespace Rows
def none {H : Type} : Left H := { results := [], args := [] }

/-- 'laws.FnExactHeightsOf': WHATEVER THE INPUT: true; the input reads as it did. -/
def fnExactHeightsOfSpec : ChangeSpec := { name := "fnExactHeightsOf", fn := fun _ => fun
  | [d1, d2] => { results := [.lit (.bool true)], args := [d1, d2] }
  | _ => none }
def fnExactHeightsOfRow : OpenClaim := { program := "ytoebgfmnjjiddaa", sum := "414e02d5c9be37850fb35c4c667058f87bb0412ab5f970a02a7c8ef4b462f892", func := "loop.example/g01084/laws.FnExactHeightsOf", spec := "fnExactHeightsOf", unfollowed := true, recurses := true, plainKeys := false, apart := false }
def FnExactHeightsOfSaid : Prop := fnExactHeightsOfRow.holds Try.pinned (OpenSpec.ofChange fnExactHeightsOfSpec)

/-- ITS FALSE NEIGHBOUR: 'it returns false'. Refute it at one input. -/
def fnExactHeightsOfWrong : ChangeSpec := { name := "fnExactHeightsOf", fn := fun _ => fun
  | [d1, d2] => { results := [.lit (.bool false)], args := [d1, d2] }
  | _ => none }
def FnExactHeightsOfWrongFalsely : Prop := fnExactHeightsOfRow.holds Try.pinned (OpenSpec.ofChange fnExactHeightsOfWrong)

/-- 'laws.FnExactElectLeader': WHATEVER THE INPUT: true; the input reads as it did. -/
def fnExactElectLeaderSpec : ChangeSpec := { name := "fnExactElectLeader", fn := fun _ => fun
  | [d] => { results := [.lit (.bool true)], args := [d] }
  | _ => none }
def fnExactElectLeaderRow : OpenClaim := { program := "ytoebgfmnjjiddaa", sum := "414e02d5c9be37850fb35c4c667058f87bb0412ab5f970a02a7c8ef4b462f892", func := "loop.example/g01084/laws.FnExactElectLeader", spec := "fnExactElectLeader", unfollowed := true, recurses := true, plainKeys := false, apart := false }
def FnExactElectLeaderSaid : Prop := fnExactElectLeaderRow.holds Try.pinned (OpenSpec.ofChange fnExactElectLeaderSpec)

/-- ITS FALSE NEIGHBOUR: 'it returns false'. Refute it at one input. -/
def fnExactElectLeaderWrong : ChangeSpec := { name := "fnExactElectLeader", fn := fun _ => fun
  | [d] => { results := [.lit (.bool false)], args := [d] }
  | _ => none }
def FnExactElectLeaderWrongFalsely : Prop := fnExactElectLeaderRow.holds Try.pinned (OpenSpec.ofChange fnExactElectLeaderWrong)

/-- 'laws.FnExactGreedyDominating': WHATEVER THE INPUT: true; the input reads as it did. -/
def fnExactGreedyDominatingSpec : ChangeSpec := { name := "fnExactGreedyDominating", fn := fun _ => fun
  | [d] => { results := [.lit (.bool true)], args := [d] }
  | _ => none }
def fnExactGreedyDominatingRow : OpenClaim := { program := "ytoebgfmnjjiddaa", sum := "414e02d5c9be37850fb35c4c667058f87bb0412ab5f970a02a7c8ef4b462f892", func := "loop.example/g01084/laws.FnExactGreedyDominating", spec := "fnExactGreedyDominating", unfollowed := true, recurses := true, plainKeys := false, apart := false }
def FnExactGreedyDominatingSaid : Prop := fnExactGreedyDominatingRow.holds Try.pinned (OpenSpec.ofChange fnExactGreedyDominatingSpec)

/-- ITS FALSE NEIGHBOUR: 'it returns false'. Refute it at one input. -/
def fnExactGreedyDominatingWrong : ChangeSpec := { name := "fnExactGreedyDominating", fn := fun _ => fun
  | [d] => { results := [.lit (.bool false)], args := [d] }
  | _ => none }
def FnExactGreedyDominatingWrongFalsely : Prop := fnExactGreedyDominatingRow.holds Try.pinned (OpenSpec.ofChange fnExactGreedyDominatingWrong)

/-- 'laws.FnExactAdjacentClusters': WHATEVER THE INPUT: true; the input reads as it did. -/
def fnExactAdjacentClustersSpec : ChangeSpec := { name := "fnExactAdjacentClusters", fn := fun _ => fun
  | [d1, d2] => { results := [.lit (.bool true)], args := [d1, d2] }
  | _ => none }
def fnExactAdjacentClustersRow : OpenClaim := { program := "ytoebgfmnjjiddaa", sum := "414e02d5c9be37850fb35c4c667058f87bb0412ab5f970a02a7c8ef4b462f892", func := "loop.example/g01084/laws.FnExactAdjacentClusters", spec := "fnExactAdjacentClusters", unfollowed := true, recurses := true, plainKeys := false, apart := false }
def FnExactAdjacentClustersSaid : Prop := fnExactAdjacentClustersRow.holds Try.pinned (OpenSpec.ofChange fnExactAdjacentClustersSpec)

/-- ITS FALSE NEIGHBOUR: 'it returns false'. Refute it at one input. -/
def fnExactAdjacentClustersWrong : ChangeSpec := { name := "fnExactAdjacentClusters", fn := fun _ => fun
  | [d1, d2] => { results := [.lit (.bool false)], args := [d1, d2] }
  | _ => none }
def FnExactAdjacentClustersWrongFalsely : Prop := fnExactAdjacentClustersRow.holds Try.pinned (OpenSpec.ofChange fnExactAdjacentClustersWrong)

/-- 'laws.FnExactColourClusters': WHATEVER THE INPUT: true; the input reads as it did. -/
def fnExactColourClustersSpec : ChangeSpec := { name := "fnExactColourClusters", fn := fun _ => fun
  | [d1, d2] => { results := [.lit (.bool true)], args := [d1, d2] }
  | _ => none }
def fnExactColourClustersRow : OpenClaim := { program := "ytoebgfmnjjiddaa", sum := "414e02d5c9be37850fb35c4c667058f87bb0412ab5f970a02a7c8ef4b462f892", func := "loop.example/g01084/laws.FnExactColourClusters", spec := "fnExactColourClusters", unfollowed := true, recurses := true, plainKeys := false, apart := false }
def FnExactColourClustersSaid : Prop := fnExactColourClustersRow.holds Try.pinned (OpenSpec.ofChange fnExactColourClustersSpec)

/-- ITS FALSE NEIGHBOUR: 'it returns false'. Refute it at one input. -/
def fnExactColourClustersWrong : ChangeSpec := { name := "fnExactColourClusters", fn := fun _ => fun
  | [d1, d2] => { results := [.lit (.bool false)], args := [d1, d2] }
  | _ => none }
def FnExactColourClustersWrongFalsely : Prop := fnExactColourClustersRow.holds Try.pinned (OpenSpec.ofChange fnExactColourClustersWrong)

/-- 'laws.FnExactClusterRounds': WHATEVER THE INPUT: true; the input reads as it did. -/
def fnExactClusterRoundsSpec : ChangeSpec := { name := "fnExactClusterRounds", fn := fun _ => fun
  | [d1, d2] => { results := [.lit (.bool true)], args := [d1, d2] }
  | _ => none }
def fnExactClusterRoundsRow : OpenClaim := { program := "ytoebgfmnjjiddaa", sum := "414e02d5c9be37850fb35c4c667058f87bb0412ab5f970a02a7c8ef4b462f892", func := "loop.example/g01084/laws.FnExactClusterRounds", spec := "fnExactClusterRounds", unfollowed := true, recurses := true, plainKeys := false, apart := false }
def FnExactClusterRoundsSaid : Prop := fnExactClusterRoundsRow.holds Try.pinned (OpenSpec.ofChange fnExactClusterRoundsSpec)

/-- ITS FALSE NEIGHBOUR: 'it returns false'. Refute it at one input. -/
def fnExactClusterRoundsWrong : ChangeSpec := { name := "fnExactClusterRounds", fn := fun _ => fun
  | [d1, d2] => { results := [.lit (.bool false)], args := [d1, d2] }
  | _ => none }
def FnExactClusterRoundsWrongFalsely : Prop := fnExactClusterRoundsRow.holds Try.pinned (OpenSpec.ofChange fnExactClusterRoundsWrong)

/-- 'laws.FnExactDefectiveColouring': WHATEVER THE INPUT: true; the input reads as it did. -/
def fnExactDefectiveColouringSpec : ChangeSpec := { name := "fnExactDefectiveColouring", fn := fun _ => fun
  | [d1, d2] => { results := [.lit (.bool true)], args := [d1, d2] }
  | _ => none }
def fnExactDefectiveColouringRow : OpenClaim := { program := "ytoebgfmnjjiddaa", sum := "414e02d5c9be37850fb35c4c667058f87bb0412ab5f970a02a7c8ef4b462f892", func := "loop.example/g01084/laws.FnExactDefectiveColouring", spec := "fnExactDefectiveColouring", unfollowed := true, recurses := true, plainKeys := false, apart := false }
def FnExactDefectiveColouringSaid : Prop := fnExactDefectiveColouringRow.holds Try.pinned (OpenSpec.ofChange fnExactDefectiveColouringSpec)

/-- ITS FALSE NEIGHBOUR: 'it returns false'. Refute it at one input. -/
def fnExactDefectiveColouringWrong : ChangeSpec := { name := "fnExactDefectiveColouring", fn := fun _ => fun
  | [d1, d2] => { results := [.lit (.bool false)], args := [d1, d2] }
  | _ => none }
def FnExactDefectiveColouringWrongFalsely : Prop := fnExactDefectiveColouringRow.holds Try.pinned (OpenSpec.ofChange fnExactDefectiveColouringWrong)

/-- 'laws.FnExactWaveFrom': WHATEVER THE INPUT: true; the input reads as it did. -/
def fnExactWaveFromSpec : ChangeSpec := { name := "fnExactWaveFrom", fn := fun _ => fun
  | [d1, d2] => { results := [.lit (.bool true)], args := [d1, d2] }
  | _ => none }
def fnExactWaveFromRow : OpenClaim := { program := "ytoebgfmnjjiddaa", sum := "414e02d5c9be37850fb35c4c667058f87bb0412ab5f970a02a7c8ef4b462f892", func := "loop.example/g01084/laws.FnExactWaveFrom", spec := "fnExactWaveFrom", unfollowed := true, recurses := true, plainKeys := false, apart := false }
def FnExactWaveFromSaid : Prop := fnExactWaveFromRow.holds Try.pinned (OpenSpec.ofChange fnExactWaveFromSpec)

/-- ITS FALSE NEIGHBOUR: 'it returns false'. Refute it at one input. -/
def fnExactWaveFromWrong : ChangeSpec := { name := "fnExactWaveFrom", fn := fun _ => fun
  | [d1, d2] => { results := [.lit (.bool false)], args := [d1, d2] }
  | _ => none }
def FnExactWaveFromWrongFalsely : Prop := fnExactWaveFromRow.holds Try.pinned (OpenSpec.ofChange fnExactWaveFromWrong)

/-- 'laws.FnExactSpanByWaves': WHATEVER THE INPUT: true; the input reads as it did. -/
def fnExactSpanByWavesSpec : ChangeSpec := { name := "fnExactSpanByWaves", fn := fun _ => fun
  | [d] => { results := [.lit (.bool true)], args := [d] }
  | _ => none }
def fnExactSpanByWavesRow : OpenClaim := { program := "ytoebgfmnjjiddaa", sum := "414e02d5c9be37850fb35c4c667058f87bb0412ab5f970a02a7c8ef4b462f892", func := "loop.example/g01084/laws.FnExactSpanByWaves", spec := "fnExactSpanByWaves", unfollowed := true, recurses := true, plainKeys := false, apart := false }
def FnExactSpanByWavesSaid : Prop := fnExactSpanByWavesRow.holds Try.pinned (OpenSpec.ofChange fnExactSpanByWavesSpec)

/-- ITS FALSE NEIGHBOUR: 'it returns false'. Refute it at one input. -/
def fnExactSpanByWavesWrong : ChangeSpec := { name := "fnExactSpanByWaves", fn := fun _ => fun
  | [d] => { results := [.lit (.bool false)], args := [d] }
  | _ => none }
def FnExactSpanByWavesWrongFalsely : Prop := fnExactSpanByWavesRow.holds Try.pinned (OpenSpec.ofChange fnExactSpanByWavesWrong)

/-- 'laws.FnExactTokenWalk': WHATEVER THE INPUT: true; the input reads as it did. -/
def fnExactTokenWalkSpec : ChangeSpec := { name := "fnExactTokenWalk", fn := fun _ => fun
  | [d1, d2] => { results := [.lit (.bool true)], args := [d1, d2] }
  | _ => none }
def fnExactTokenWalkRow : OpenClaim := { program := "ytoebgfmnjjiddaa", sum := "414e02d5c9be37850fb35c4c667058f87bb0412ab5f970a02a7c8ef4b462f892", func := "loop.example/g01084/laws.FnExactTokenWalk", spec := "fnExactTokenWalk", unfollowed := true, recurses := true, plainKeys := false, apart := false }
def FnExactTokenWalkSaid : Prop := fnExactTokenWalkRow.holds Try.pinned (OpenSpec.ofChange fnExactTokenWalkSpec)

/-- ITS FALSE NEIGHBOUR: 'it returns false'. Refute it at one input. -/
def fnExactTokenWalkWrong : ChangeSpec := { name := "fnExactTokenWalk", fn := fun _ => fun
  | [d1, d2] => { results := [.lit (.bool false)], args := [d1, d2] }
  | _ => none }
def FnExactTokenWalkWrongFalsely : Prop := fnExactTokenWalkRow.holds Try.pinned (OpenSpec.ofChange fnExactTokenWalkWrong)

/-- 'laws.FnExactIsTokenWalk': WHATEVER THE INPUT: true; the input reads as it did. -/
def fnExactIsTokenWalkSpec : ChangeSpec := { name := "fnExactIsTokenWalk", fn := fun _ => fun
  | [d1, d2, d3] => { results := [.lit (.bool true)], args := [d1, d2, d3] }
  | _ => none }
def fnExactIsTokenWalkRow : OpenClaim := { program := "ytoebgfmnjjiddaa", sum := "414e02d5c9be37850fb35c4c667058f87bb0412ab5f970a02a7c8ef4b462f892", func := "loop.example/g01084/laws.FnExactIsTokenWalk", spec := "fnExactIsTokenWalk", unfollowed := true, recurses := true, plainKeys := false, apart := false }
def FnExactIsTokenWalkSaid : Prop := fnExactIsTokenWalkRow.holds Try.pinned (OpenSpec.ofChange fnExactIsTokenWalkSpec)

/-- ITS FALSE NEIGHBOUR: 'it returns false'. Refute it at one input. -/
def fnExactIsTokenWalkWrong : ChangeSpec := { name := "fnExactIsTokenWalk", fn := fun _ => fun
  | [d1, d2, d3] => { results := [.lit (.bool false)], args := [d1, d2, d3] }
  | _ => none }
def FnExactIsTokenWalkWrongFalsely : Prop := fnExactIsTokenWalkRow.holds Try.pinned (OpenSpec.ofChange fnExactIsTokenWalkWrong)

/-- 'laws.FnExactStrongDiameter': WHATEVER THE INPUT: true; the input reads as it did. -/
def fnExactStrongDiameterSpec : ChangeSpec := { name := "fnExactStrongDiameter", fn := fun _ => fun
  | [d1, d2] => { results := [.lit (.bool true)], args := [d1, d2] }
  | _ => none }
def fnExactStrongDiameterRow : OpenClaim := { program := "ytoebgfmnjjiddaa", sum := "414e02d5c9be37850fb35c4c667058f87bb0412ab5f970a02a7c8ef4b462f892", func := "loop.example/g01084/laws.FnExactStrongDiameter", spec := "fnExactStrongDiameter", unfollowed := true, recurses := true, plainKeys := false, apart := false }
def FnExactStrongDiameterSaid : Prop := fnExactStrongDiameterRow.holds Try.pinned (OpenSpec.ofChange fnExactStrongDiameterSpec)

/-- ITS FALSE NEIGHBOUR: 'it returns false'. Refute it at one input. -/
def fnExactStrongDiameterWrong : ChangeSpec := { name := "fnExactStrongDiameter", fn := fun _ => fun
  | [d1, d2] => { results := [.lit (.bool false)], args := [d1, d2] }
  | _ => none }
def FnExactStrongDiameterWrongFalsely : Prop := fnExactStrongDiameterRow.holds Try.pinned (OpenSpec.ofChange fnExactStrongDiameterWrong)

/- THE SECOND FORM. 'bulk': how many values and letters a reading holds, each counted each time it is reached (what is shared counts as often as it is met; a slice's spare places count too). A statement '..UptoSaid' is the law's where the arguments, and the package variables that the reading takes, are together of bulk at most 1048576: NARROWER than '..Said'. Prove '..Said' where nothing that the law and all that it calls make is longer than what came in: it says more and counts as full. Else prove '..UptoSaid'. A law counts once. -/
mutual
def uptoBulk {H : Type} : DataW H → Nat
  | .lit (.string bytes) => bytes.length + 1
  | .lit _ => 1
  | .nil => 1
  | .ptr d => uptoBulk d + 1
  | .slice elems spare => uptoBulkAll elems + uptoBulkAll spare + 1
  | .agg parts => uptoBulkAll parts + 1
  | .iface _ d => uptoBulk d + 1
  | .map entries => uptoBulkEntries entries + 1
  | .held _ => 1
def uptoBulkAll {H : Type} : List (DataW H) → Nat
  | [] => 0
  | d :: r => uptoBulk d + uptoBulkAll r
def uptoBulkEntries {H : Type} : List (Lit × DataW H) → Nat
  | [] => 0
  | x :: r => uptoBulkEntry x + uptoBulkEntries r
def uptoBulkEntry {H : Type} : Lit × DataW H → Nat
  | (.string bytes, d) => bytes.length + uptoBulk d + 1
  | (_, d) => uptoBulk d + 1
 end
def uptoSmall : (H : Type) → List (DataW H) → Bool := fun _ ds => decide (uptoBulkAll ds ≤ 1048576)
def OpenSpec.upto (s : _root_.Go.ChangeSpec) : _root_.Go.OpenSpec := { _root_.Go.OpenSpec.ofChange s with cond := some uptoSmall }

/-- 'laws.FnExactHeightsOf', WHERE WHAT IT READS IS OF BULK AT MOST 1048576: true; the input reads as it did. -/
def fnExactHeightsOfUptoRow : OpenClaim := { program := "ytoebgfmnjjiddaa", sum := "414e02d5c9be37850fb35c4c667058f87bb0412ab5f970a02a7c8ef4b462f892", func := "loop.example/g01084/laws.FnExactHeightsOf", spec := "fnExactHeightsOf", unfollowed := true, recurses := true, plainKeys := false, apart := false, narrowed := true }
def FnExactHeightsOfUptoSaid : Prop := fnExactHeightsOfUptoRow.holds Try.pinned (OpenSpec.upto fnExactHeightsOfSpec)

/-- 'laws.FnExactElectLeader', WHERE WHAT IT READS IS OF BULK AT MOST 1048576: true; the input reads as it did. -/
def fnExactElectLeaderUptoRow : OpenClaim := { program := "ytoebgfmnjjiddaa", sum := "414e02d5c9be37850fb35c4c667058f87bb0412ab5f970a02a7c8ef4b462f892", func := "loop.example/g01084/laws.FnExactElectLeader", spec := "fnExactElectLeader", unfollowed := true, recurses := true, plainKeys := false, apart := false, narrowed := true }
def FnExactElectLeaderUptoSaid : Prop := fnExactElectLeaderUptoRow.holds Try.pinned (OpenSpec.upto fnExactElectLeaderSpec)

/-- 'laws.FnExactGreedyDominating', WHERE WHAT IT READS IS OF BULK AT MOST 1048576: true; the input reads as it did. -/
def fnExactGreedyDominatingUptoRow : OpenClaim := { program := "ytoebgfmnjjiddaa", sum := "414e02d5c9be37850fb35c4c667058f87bb0412ab5f970a02a7c8ef4b462f892", func := "loop.example/g01084/laws.FnExactGreedyDominating", spec := "fnExactGreedyDominating", unfollowed := true, recurses := true, plainKeys := false, apart := false, narrowed := true }
def FnExactGreedyDominatingUptoSaid : Prop := fnExactGreedyDominatingUptoRow.holds Try.pinned (OpenSpec.upto fnExactGreedyDominatingSpec)

/-- 'laws.FnExactAdjacentClusters', WHERE WHAT IT READS IS OF BULK AT MOST 1048576: true; the input reads as it did. -/
def fnExactAdjacentClustersUptoRow : OpenClaim := { program := "ytoebgfmnjjiddaa", sum := "414e02d5c9be37850fb35c4c667058f87bb0412ab5f970a02a7c8ef4b462f892", func := "loop.example/g01084/laws.FnExactAdjacentClusters", spec := "fnExactAdjacentClusters", unfollowed := true, recurses := true, plainKeys := false, apart := false, narrowed := true }
def FnExactAdjacentClustersUptoSaid : Prop := fnExactAdjacentClustersUptoRow.holds Try.pinned (OpenSpec.upto fnExactAdjacentClustersSpec)

/-- 'laws.FnExactColourClusters', WHERE WHAT IT READS IS OF BULK AT MOST 1048576: true; the input reads as it did. -/
def fnExactColourClustersUptoRow : OpenClaim := { program := "ytoebgfmnjjiddaa", sum := "414e02d5c9be37850fb35c4c667058f87bb0412ab5f970a02a7c8ef4b462f892", func := "loop.example/g01084/laws.FnExactColourClusters", spec := "fnExactColourClusters", unfollowed := true, recurses := true, plainKeys := false, apart := false, narrowed := true }
def FnExactColourClustersUptoSaid : Prop := fnExactColourClustersUptoRow.holds Try.pinned (OpenSpec.upto fnExactColourClustersSpec)

/-- 'laws.FnExactClusterRounds', WHERE WHAT IT READS IS OF BULK AT MOST 1048576: true; the input reads as it did. -/
def fnExactClusterRoundsUptoRow : OpenClaim := { program := "ytoebgfmnjjiddaa", sum := "414e02d5c9be37850fb35c4c667058f87bb0412ab5f970a02a7c8ef4b462f892", func := "loop.example/g01084/laws.FnExactClusterRounds", spec := "fnExactClusterRounds", unfollowed := true, recurses := true, plainKeys := false, apart := false, narrowed := true }
def FnExactClusterRoundsUptoSaid : Prop := fnExactClusterRoundsUptoRow.holds Try.pinned (OpenSpec.upto fnExactClusterRoundsSpec)

/-- 'laws.FnExactDefectiveColouring', WHERE WHAT IT READS IS OF BULK AT MOST 1048576: true; the input reads as it did. -/
def fnExactDefectiveColouringUptoRow : OpenClaim := { program := "ytoebgfmnjjiddaa", sum := "414e02d5c9be37850fb35c4c667058f87bb0412ab5f970a02a7c8ef4b462f892", func := "loop.example/g01084/laws.FnExactDefectiveColouring", spec := "fnExactDefectiveColouring", unfollowed := true, recurses := true, plainKeys := false, apart := false, narrowed := true }
def FnExactDefectiveColouringUptoSaid : Prop := fnExactDefectiveColouringUptoRow.holds Try.pinned (OpenSpec.upto fnExactDefectiveColouringSpec)

/-- 'laws.FnExactWaveFrom', WHERE WHAT IT READS IS OF BULK AT MOST 1048576: true; the input reads as it did. -/
def fnExactWaveFromUptoRow : OpenClaim := { program := "ytoebgfmnjjiddaa", sum := "414e02d5c9be37850fb35c4c667058f87bb0412ab5f970a02a7c8ef4b462f892", func := "loop.example/g01084/laws.FnExactWaveFrom", spec := "fnExactWaveFrom", unfollowed := true, recurses := true, plainKeys := false, apart := false, narrowed := true }
def FnExactWaveFromUptoSaid : Prop := fnExactWaveFromUptoRow.holds Try.pinned (OpenSpec.upto fnExactWaveFromSpec)

/-- 'laws.FnExactSpanByWaves', WHERE WHAT IT READS IS OF BULK AT MOST 1048576: true; the input reads as it did. -/
def fnExactSpanByWavesUptoRow : OpenClaim := { program := "ytoebgfmnjjiddaa", sum := "414e02d5c9be37850fb35c4c667058f87bb0412ab5f970a02a7c8ef4b462f892", func := "loop.example/g01084/laws.FnExactSpanByWaves", spec := "fnExactSpanByWaves", unfollowed := true, recurses := true, plainKeys := false, apart := false, narrowed := true }
def FnExactSpanByWavesUptoSaid : Prop := fnExactSpanByWavesUptoRow.holds Try.pinned (OpenSpec.upto fnExactSpanByWavesSpec)

/-- 'laws.FnExactTokenWalk', WHERE WHAT IT READS IS OF BULK AT MOST 1048576: true; the input reads as it did. -/
def fnExactTokenWalkUptoRow : OpenClaim := { program := "ytoebgfmnjjiddaa", sum := "414e02d5c9be37850fb35c4c667058f87bb0412ab5f970a02a7c8ef4b462f892", func := "loop.example/g01084/laws.FnExactTokenWalk", spec := "fnExactTokenWalk", unfollowed := true, recurses := true, plainKeys := false, apart := false, narrowed := true }
def FnExactTokenWalkUptoSaid : Prop := fnExactTokenWalkUptoRow.holds Try.pinned (OpenSpec.upto fnExactTokenWalkSpec)

/-- 'laws.FnExactIsTokenWalk', WHERE WHAT IT READS IS OF BULK AT MOST 1048576: true; the input reads as it did. -/
def fnExactIsTokenWalkUptoRow : OpenClaim := { program := "ytoebgfmnjjiddaa", sum := "414e02d5c9be37850fb35c4c667058f87bb0412ab5f970a02a7c8ef4b462f892", func := "loop.example/g01084/laws.FnExactIsTokenWalk", spec := "fnExactIsTokenWalk", unfollowed := true, recurses := true, plainKeys := false, apart := false, narrowed := true }
def FnExactIsTokenWalkUptoSaid : Prop := fnExactIsTokenWalkUptoRow.holds Try.pinned (OpenSpec.upto fnExactIsTokenWalkSpec)

/-- 'laws.FnExactStrongDiameter', WHERE WHAT IT READS IS OF BULK AT MOST 1048576: true; the input reads as it did. -/
def fnExactStrongDiameterUptoRow : OpenClaim := { program := "ytoebgfmnjjiddaa", sum := "414e02d5c9be37850fb35c4c667058f87bb0412ab5f970a02a7c8ef4b462f892", func := "loop.example/g01084/laws.FnExactStrongDiameter", spec := "fnExactStrongDiameter", unfollowed := true, recurses := true, plainKeys := false, apart := false, narrowed := true }
def FnExactStrongDiameterUptoSaid : Prop := fnExactStrongDiameterUptoRow.holds Try.pinned (OpenSpec.upto fnExactStrongDiameterSpec)

end Rows
end Go.Proofs.Ytoebgfmnjjiddaa
