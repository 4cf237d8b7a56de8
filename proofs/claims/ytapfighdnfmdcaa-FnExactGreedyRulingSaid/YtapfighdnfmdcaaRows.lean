/-
  No cell of these rows narrows 'for every input' (looked for: loops, veiled, ifaces, maps, wideKeys, modest, calm, conditions, laid).
  DERIVED. THE GIVEN ROWS OF THIS SEAT. 12 by the template 'for every input the law returns true; each argument reads behind the call as it read before'; 0 by the template 'total and deterministic' (their statements: YtapfighdnfmdcaaTotals.lean).
  GIVEN WITH THE SEED: the statements are not yours to turn. If you find one false, say at which input.
  Laid BY PROGRAM, IN A SANDBOX (cutbox-rows.mjs): the forced cells as the released guide's own fill.sh prints them over the translation 96e99d8d850c4a93… (all of the seat's roots in one cut). By AI agents, Wed Nov 11 2026. No macro, syntax, notation, axiom, sorry.
-/
import Derived.Test.YtapfighdnfmdcaaChecked
import GoSem.Claim
import GoSem.ClaimJoined
import GoSem.ClaimMapViews
import Derived.JoinedTies
import Derived.KernelRfl
namespace Go.Proofs.Ytapfighdnfmdcaa
/- THE CELL 'sum', in the pinned program and in every row, IS THE sha256 OF THE DUMP (.gsa) THAT YtapfighdnfmdcaaProg.lean LOADS. Nothing in Lean hashes anything: it is a label: what it is worth is what the hold of that sum in a sandbox is worth. -/
noncomputable def Try.pinned : Pinned := { name := "ytapfighdnfmdcaa", sum := "96e99d8d850c4a93d0f061605a4d169269f99bd83359120b1067509718ec332a", checked := Try.checked }
namespace Rows
def none {H : Type} : Left H := { results := [], args := [] }

/-- 'laws.FnExactShiftCentres': WHATEVER THE INPUT: true; the input reads as it did. -/
def fnExactShiftCentresSpec : ChangeSpec := { name := "fnExactShiftCentres", fn := fun _ => fun
  | [d1, d2] => { results := [.lit (.bool true)], args := [d1, d2] }
  | _ => none }
def fnExactShiftCentresRow : OpenClaim := { program := "ytapfighdnfmdcaa", sum := "96e99d8d850c4a93d0f061605a4d169269f99bd83359120b1067509718ec332a", func := "loop.example/g01084/laws.FnExactShiftCentres", spec := "fnExactShiftCentres", unfollowed := true, recurses := true, apart := false }
def FnExactShiftCentresSaid : Prop := fnExactShiftCentresRow.holds Try.pinned (OpenSpec.ofChange fnExactShiftCentresSpec)

/-- ITS FALSE NEIGHBOUR: 'it returns false'. Refute it at one input. -/
def fnExactShiftCentresWrong : ChangeSpec := { name := "fnExactShiftCentres", fn := fun _ => fun
  | [d1, d2] => { results := [.lit (.bool false)], args := [d1, d2] }
  | _ => none }
def FnExactShiftCentresWrongFalsely : Prop := fnExactShiftCentresRow.holds Try.pinned (OpenSpec.ofChange fnExactShiftCentresWrong)

/-- 'laws.FnExactGreedyRuling': WHATEVER THE INPUT: true; the input reads as it did. -/
def fnExactGreedyRulingSpec : ChangeSpec := { name := "fnExactGreedyRuling", fn := fun _ => fun
  | [d1, d2, d3] => { results := [.lit (.bool true)], args := [d1, d2, d3] }
  | _ => none }
def fnExactGreedyRulingRow : OpenClaim := { program := "ytapfighdnfmdcaa", sum := "96e99d8d850c4a93d0f061605a4d169269f99bd83359120b1067509718ec332a", func := "loop.example/g01084/laws.FnExactGreedyRuling", spec := "fnExactGreedyRuling", unfollowed := true, recurses := true, apart := false }
def FnExactGreedyRulingSaid : Prop := fnExactGreedyRulingRow.holds Try.pinned (OpenSpec.ofChange fnExactGreedyRulingSpec)

/-- ITS FALSE NEIGHBOUR: 'it returns false'. Refute it at one input. -/
def fnExactGreedyRulingWrong : ChangeSpec := { name := "fnExactGreedyRuling", fn := fun _ => fun
  | [d1, d2, d3] => { results := [.lit (.bool false)], args := [d1, d2, d3] }
  | _ => none }
def FnExactGreedyRulingWrongFalsely : Prop := fnExactGreedyRulingRow.holds Try.pinned (OpenSpec.ofChange fnExactGreedyRulingWrong)

/-- 'laws.FnExactGreedyDistanceColouring': WHATEVER THE INPUT: true; the input reads as it did. -/
def fnExactGreedyDistanceColouringSpec : ChangeSpec := { name := "fnExactGreedyDistanceColouring", fn := fun _ => fun
  | [d1, d2, d3] => { results := [.lit (.bool true)], args := [d1, d2, d3] }
  | _ => none }
def fnExactGreedyDistanceColouringRow : OpenClaim := { program := "ytapfighdnfmdcaa", sum := "96e99d8d850c4a93d0f061605a4d169269f99bd83359120b1067509718ec332a", func := "loop.example/g01084/laws.FnExactGreedyDistanceColouring", spec := "fnExactGreedyDistanceColouring", unfollowed := true, recurses := true, apart := false }
def FnExactGreedyDistanceColouringSaid : Prop := fnExactGreedyDistanceColouringRow.holds Try.pinned (OpenSpec.ofChange fnExactGreedyDistanceColouringSpec)

/-- ITS FALSE NEIGHBOUR: 'it returns false'. Refute it at one input. -/
def fnExactGreedyDistanceColouringWrong : ChangeSpec := { name := "fnExactGreedyDistanceColouring", fn := fun _ => fun
  | [d1, d2, d3] => { results := [.lit (.bool false)], args := [d1, d2, d3] }
  | _ => none }
def FnExactGreedyDistanceColouringWrongFalsely : Prop := fnExactGreedyDistanceColouringRow.holds Try.pinned (OpenSpec.ofChange fnExactGreedyDistanceColouringWrong)

/-- 'laws.FnExactGreedyColouring': WHATEVER THE INPUT: true; the input reads as it did. -/
def fnExactGreedyColouringSpec : ChangeSpec := { name := "fnExactGreedyColouring", fn := fun _ => fun
  | [d1, d2] => { results := [.lit (.bool true)], args := [d1, d2] }
  | _ => none }
def fnExactGreedyColouringRow : OpenClaim := { program := "ytapfighdnfmdcaa", sum := "96e99d8d850c4a93d0f061605a4d169269f99bd83359120b1067509718ec332a", func := "loop.example/g01084/laws.FnExactGreedyColouring", spec := "fnExactGreedyColouring", unfollowed := true, recurses := true, apart := false }
def FnExactGreedyColouringSaid : Prop := fnExactGreedyColouringRow.holds Try.pinned (OpenSpec.ofChange fnExactGreedyColouringSpec)

/-- ITS FALSE NEIGHBOUR: 'it returns false'. Refute it at one input. -/
def fnExactGreedyColouringWrong : ChangeSpec := { name := "fnExactGreedyColouring", fn := fun _ => fun
  | [d1, d2] => { results := [.lit (.bool false)], args := [d1, d2] }
  | _ => none }
def FnExactGreedyColouringWrongFalsely : Prop := fnExactGreedyColouringRow.holds Try.pinned (OpenSpec.ofChange fnExactGreedyColouringWrong)

/-- 'laws.FnExactDegeneracy': WHATEVER THE INPUT: true; the input reads as it did. -/
def fnExactDegeneracySpec : ChangeSpec := { name := "fnExactDegeneracy", fn := fun _ => fun
  | [d] => { results := [.lit (.bool true)], args := [d] }
  | _ => none }
def fnExactDegeneracyRow : OpenClaim := { program := "ytapfighdnfmdcaa", sum := "96e99d8d850c4a93d0f061605a4d169269f99bd83359120b1067509718ec332a", func := "loop.example/g01084/laws.FnExactDegeneracy", spec := "fnExactDegeneracy", unfollowed := true, recurses := true, apart := false }
def FnExactDegeneracySaid : Prop := fnExactDegeneracyRow.holds Try.pinned (OpenSpec.ofChange fnExactDegeneracySpec)

/-- ITS FALSE NEIGHBOUR: 'it returns false'. Refute it at one input. -/
def fnExactDegeneracyWrong : ChangeSpec := { name := "fnExactDegeneracy", fn := fun _ => fun
  | [d] => { results := [.lit (.bool false)], args := [d] }
  | _ => none }
def FnExactDegeneracyWrongFalsely : Prop := fnExactDegeneracyRow.holds Try.pinned (OpenSpec.ofChange fnExactDegeneracyWrong)

/-- 'laws.FnExactPeelLayers': WHATEVER THE INPUT: true; the input reads as it did. -/
def fnExactPeelLayersSpec : ChangeSpec := { name := "fnExactPeelLayers", fn := fun _ => fun
  | [d1, d2] => { results := [.lit (.bool true)], args := [d1, d2] }
  | _ => none }
def fnExactPeelLayersRow : OpenClaim := { program := "ytapfighdnfmdcaa", sum := "96e99d8d850c4a93d0f061605a4d169269f99bd83359120b1067509718ec332a", func := "loop.example/g01084/laws.FnExactPeelLayers", spec := "fnExactPeelLayers", unfollowed := true, recurses := true, apart := false }
def FnExactPeelLayersSaid : Prop := fnExactPeelLayersRow.holds Try.pinned (OpenSpec.ofChange fnExactPeelLayersSpec)

/-- ITS FALSE NEIGHBOUR: 'it returns false'. Refute it at one input. -/
def fnExactPeelLayersWrong : ChangeSpec := { name := "fnExactPeelLayers", fn := fun _ => fun
  | [d1, d2] => { results := [.lit (.bool false)], args := [d1, d2] }
  | _ => none }
def FnExactPeelLayersWrongFalsely : Prop := fnExactPeelLayersRow.holds Try.pinned (OpenSpec.ofChange fnExactPeelLayersWrong)

/-- 'laws.FnExactOutDegreesOf': WHATEVER THE INPUT: true; the input reads as it did. -/
def fnExactOutDegreesOfSpec : ChangeSpec := { name := "fnExactOutDegreesOf", fn := fun _ => fun
  | [d1, d2] => { results := [.lit (.bool true)], args := [d1, d2] }
  | _ => none }
def fnExactOutDegreesOfRow : OpenClaim := { program := "ytapfighdnfmdcaa", sum := "96e99d8d850c4a93d0f061605a4d169269f99bd83359120b1067509718ec332a", func := "loop.example/g01084/laws.FnExactOutDegreesOf", spec := "fnExactOutDegreesOf", unfollowed := true, recurses := true, apart := false }
def FnExactOutDegreesOfSaid : Prop := fnExactOutDegreesOfRow.holds Try.pinned (OpenSpec.ofChange fnExactOutDegreesOfSpec)

/-- ITS FALSE NEIGHBOUR: 'it returns false'. Refute it at one input. -/
def fnExactOutDegreesOfWrong : ChangeSpec := { name := "fnExactOutDegreesOf", fn := fun _ => fun
  | [d1, d2] => { results := [.lit (.bool false)], args := [d1, d2] }
  | _ => none }
def FnExactOutDegreesOfWrongFalsely : Prop := fnExactOutDegreesOfRow.holds Try.pinned (OpenSpec.ofChange fnExactOutDegreesOfWrong)

/-- 'laws.FnExactOrderOfOrientation': WHATEVER THE INPUT: true; the input reads as it did. -/
def fnExactOrderOfOrientationSpec : ChangeSpec := { name := "fnExactOrderOfOrientation", fn := fun _ => fun
  | [d1, d2] => { results := [.lit (.bool true)], args := [d1, d2] }
  | _ => none }
def fnExactOrderOfOrientationRow : OpenClaim := { program := "ytapfighdnfmdcaa", sum := "96e99d8d850c4a93d0f061605a4d169269f99bd83359120b1067509718ec332a", func := "loop.example/g01084/laws.FnExactOrderOfOrientation", spec := "fnExactOrderOfOrientation", unfollowed := true, recurses := true, apart := false }
def FnExactOrderOfOrientationSaid : Prop := fnExactOrderOfOrientationRow.holds Try.pinned (OpenSpec.ofChange fnExactOrderOfOrientationSpec)

/-- ITS FALSE NEIGHBOUR: 'it returns false'. Refute it at one input. -/
def fnExactOrderOfOrientationWrong : ChangeSpec := { name := "fnExactOrderOfOrientation", fn := fun _ => fun
  | [d1, d2] => { results := [.lit (.bool false)], args := [d1, d2] }
  | _ => none }
def FnExactOrderOfOrientationWrongFalsely : Prop := fnExactOrderOfOrientationRow.holds Try.pinned (OpenSpec.ofChange fnExactOrderOfOrientationWrong)

/-- 'laws.FnExactHeightsOf': WHATEVER THE INPUT: true; the input reads as it did. -/
def fnExactHeightsOfSpec : ChangeSpec := { name := "fnExactHeightsOf", fn := fun _ => fun
  | [d1, d2] => { results := [.lit (.bool true)], args := [d1, d2] }
  | _ => none }
def fnExactHeightsOfRow : OpenClaim := { program := "ytapfighdnfmdcaa", sum := "96e99d8d850c4a93d0f061605a4d169269f99bd83359120b1067509718ec332a", func := "loop.example/g01084/laws.FnExactHeightsOf", spec := "fnExactHeightsOf", unfollowed := true, recurses := true, apart := false }
def FnExactHeightsOfSaid : Prop := fnExactHeightsOfRow.holds Try.pinned (OpenSpec.ofChange fnExactHeightsOfSpec)

/-- ITS FALSE NEIGHBOUR: 'it returns false'. Refute it at one input. -/
def fnExactHeightsOfWrong : ChangeSpec := { name := "fnExactHeightsOf", fn := fun _ => fun
  | [d1, d2] => { results := [.lit (.bool false)], args := [d1, d2] }
  | _ => none }
def FnExactHeightsOfWrongFalsely : Prop := fnExactHeightsOfRow.holds Try.pinned (OpenSpec.ofChange fnExactHeightsOfWrong)

/-- 'laws.FnExactForestLabels': WHATEVER THE INPUT: true; the input reads as it did. -/
def fnExactForestLabelsSpec : ChangeSpec := { name := "fnExactForestLabels", fn := fun _ => fun
  | [d1, d2] => { results := [.lit (.bool true)], args := [d1, d2] }
  | _ => none }
def fnExactForestLabelsRow : OpenClaim := { program := "ytapfighdnfmdcaa", sum := "96e99d8d850c4a93d0f061605a4d169269f99bd83359120b1067509718ec332a", func := "loop.example/g01084/laws.FnExactForestLabels", spec := "fnExactForestLabels", unfollowed := true, recurses := true, apart := false }
def FnExactForestLabelsSaid : Prop := fnExactForestLabelsRow.holds Try.pinned (OpenSpec.ofChange fnExactForestLabelsSpec)

/-- ITS FALSE NEIGHBOUR: 'it returns false'. Refute it at one input. -/
def fnExactForestLabelsWrong : ChangeSpec := { name := "fnExactForestLabels", fn := fun _ => fun
  | [d1, d2] => { results := [.lit (.bool false)], args := [d1, d2] }
  | _ => none }
def FnExactForestLabelsWrongFalsely : Prop := fnExactForestLabelsRow.holds Try.pinned (OpenSpec.ofChange fnExactForestLabelsWrong)

/-- 'laws.FnExactForestOrientation': WHATEVER THE INPUT: true; the input reads as it did. -/
def fnExactForestOrientationSpec : ChangeSpec := { name := "fnExactForestOrientation", fn := fun _ => fun
  | [d1, d2] => { results := [.lit (.bool true)], args := [d1, d2] }
  | _ => none }
def fnExactForestOrientationRow : OpenClaim := { program := "ytapfighdnfmdcaa", sum := "96e99d8d850c4a93d0f061605a4d169269f99bd83359120b1067509718ec332a", func := "loop.example/g01084/laws.FnExactForestOrientation", spec := "fnExactForestOrientation", unfollowed := true, recurses := true, apart := false }
def FnExactForestOrientationSaid : Prop := fnExactForestOrientationRow.holds Try.pinned (OpenSpec.ofChange fnExactForestOrientationSpec)

/-- ITS FALSE NEIGHBOUR: 'it returns false'. Refute it at one input. -/
def fnExactForestOrientationWrong : ChangeSpec := { name := "fnExactForestOrientation", fn := fun _ => fun
  | [d1, d2] => { results := [.lit (.bool false)], args := [d1, d2] }
  | _ => none }
def FnExactForestOrientationWrongFalsely : Prop := fnExactForestOrientationRow.holds Try.pinned (OpenSpec.ofChange fnExactForestOrientationWrong)

/-- 'laws.FnExactElectLeader': WHATEVER THE INPUT: true; the input reads as it did. -/
def fnExactElectLeaderSpec : ChangeSpec := { name := "fnExactElectLeader", fn := fun _ => fun
  | [d] => { results := [.lit (.bool true)], args := [d] }
  | _ => none }
def fnExactElectLeaderRow : OpenClaim := { program := "ytapfighdnfmdcaa", sum := "96e99d8d850c4a93d0f061605a4d169269f99bd83359120b1067509718ec332a", func := "loop.example/g01084/laws.FnExactElectLeader", spec := "fnExactElectLeader", unfollowed := true, recurses := true, apart := false }
def FnExactElectLeaderSaid : Prop := fnExactElectLeaderRow.holds Try.pinned (OpenSpec.ofChange fnExactElectLeaderSpec)

/-- ITS FALSE NEIGHBOUR: 'it returns false'. Refute it at one input. -/
def fnExactElectLeaderWrong : ChangeSpec := { name := "fnExactElectLeader", fn := fun _ => fun
  | [d] => { results := [.lit (.bool false)], args := [d] }
  | _ => none }
def FnExactElectLeaderWrongFalsely : Prop := fnExactElectLeaderRow.holds Try.pinned (OpenSpec.ofChange fnExactElectLeaderWrong)

/- THE SECOND FORM. 'bulk': how many values and letters a reading holds, each counted each time it is reached (what is shared counts as often as it is met; a slice's spare places count too). A statement '..UptoSaid' is the law's where the arguments, and the package variables that the reading takes, are together of bulk at most 1048576: NARROWER than '..Said'. Prove '..Said' where nothing that the law and all that it calls make is longer than what came in: it says more and counts as full. Else prove '..UptoSaid'. A law counts once. -/
mutual
def uptoBulk {H : Type} : DataW H → Nat
  | .lit (.string bytes) => bytes.length + 1
  | .lit _ => 1
  | .nil => 1
  | .ptr d => uptoBulk d + 1
  | .slice elems spare => uptoBulkAll elems + uptoBulkAll spare + 1
  | .agg parts => uptoBulkAll parts + 1
  | .iface _ d => uptoBulk d + 1
  | .map entries => uptoBulkEntries entries + 1
  | .held _ => 1
def uptoBulkAll {H : Type} : List (DataW H) → Nat
  | [] => 0
  | d :: r => uptoBulk d + uptoBulkAll r
def uptoBulkEntries {H : Type} : List (Lit × DataW H) → Nat
  | [] => 0
  | x :: r => uptoBulkEntry x + uptoBulkEntries r
def uptoBulkEntry {H : Type} : Lit × DataW H → Nat
  | (.string bytes, d) => bytes.length + uptoBulk d + 1
  | (_, d) => uptoBulk d + 1
 end
def uptoSmall : (H : Type) → List (DataW H) → Bool := fun _ ds => decide (uptoBulkAll ds ≤ 1048576)
def OpenSpec.upto (s : _root_.Go.ChangeSpec) : _root_.Go.OpenSpec := { _root_.Go.OpenSpec.ofChange s with cond := some uptoSmall }

/-- 'laws.FnExactShiftCentres', WHERE WHAT IT READS IS OF BULK AT MOST 1048576: true; the input reads as it did. -/
def fnExactShiftCentresUptoRow : OpenClaim := { program := "ytapfighdnfmdcaa", sum := "96e99d8d850c4a93d0f061605a4d169269f99bd83359120b1067509718ec332a", func := "loop.example/g01084/laws.FnExactShiftCentres", spec := "fnExactShiftCentres", unfollowed := true, recurses := true, apart := false, narrowed := true }
def FnExactShiftCentresUptoSaid : Prop := fnExactShiftCentresUptoRow.holds Try.pinned (OpenSpec.upto fnExactShiftCentresSpec)

/-- 'laws.FnExactGreedyRuling', WHERE WHAT IT READS IS OF BULK AT MOST 1048576: true; the input reads as it did. -/
def fnExactGreedyRulingUptoRow : OpenClaim := { program := "ytapfighdnfmdcaa", sum := "96e99d8d850c4a93d0f061605a4d169269f99bd83359120b1067509718ec332a", func := "loop.example/g01084/laws.FnExactGreedyRuling", spec := "fnExactGreedyRuling", unfollowed := true, recurses := true, apart := false, narrowed := true }
def FnExactGreedyRulingUptoSaid : Prop := fnExactGreedyRulingUptoRow.holds Try.pinned (OpenSpec.upto fnExactGreedyRulingSpec)

/-- 'laws.FnExactGreedyDistanceColouring', WHERE WHAT IT READS IS OF BULK AT MOST 1048576: true; the input reads as it did. -/
def fnExactGreedyDistanceColouringUptoRow : OpenClaim := { program := "ytapfighdnfmdcaa", sum := "96e99d8d850c4a93d0f061605a4d169269f99bd83359120b1067509718ec332a", func := "loop.example/g01084/laws.FnExactGreedyDistanceColouring", spec := "fnExactGreedyDistanceColouring", unfollowed := true, recurses := true, apart := false, narrowed := true }
def FnExactGreedyDistanceColouringUptoSaid : Prop := fnExactGreedyDistanceColouringUptoRow.holds Try.pinned (OpenSpec.upto fnExactGreedyDistanceColouringSpec)

/-- 'laws.FnExactGreedyColouring', WHERE WHAT IT READS IS OF BULK AT MOST 1048576: true; the input reads as it did. -/
def fnExactGreedyColouringUptoRow : OpenClaim := { program := "ytapfighdnfmdcaa", sum := "96e99d8d850c4a93d0f061605a4d169269f99bd83359120b1067509718ec332a", func := "loop.example/g01084/laws.FnExactGreedyColouring", spec := "fnExactGreedyColouring", unfollowed := true, recurses := true, apart := false, narrowed := true }
def FnExactGreedyColouringUptoSaid : Prop := fnExactGreedyColouringUptoRow.holds Try.pinned (OpenSpec.upto fnExactGreedyColouringSpec)

/-- 'laws.FnExactDegeneracy', WHERE WHAT IT READS IS OF BULK AT MOST 1048576: true; the input reads as it did. -/
def fnExactDegeneracyUptoRow : OpenClaim := { program := "ytapfighdnfmdcaa", sum := "96e99d8d850c4a93d0f061605a4d169269f99bd83359120b1067509718ec332a", func := "loop.example/g01084/laws.FnExactDegeneracy", spec := "fnExactDegeneracy", unfollowed := true, recurses := true, apart := false, narrowed := true }
def FnExactDegeneracyUptoSaid : Prop := fnExactDegeneracyUptoRow.holds Try.pinned (OpenSpec.upto fnExactDegeneracySpec)

/-- 'laws.FnExactPeelLayers', WHERE WHAT IT READS IS OF BULK AT MOST 1048576: true; the input reads as it did. -/
def fnExactPeelLayersUptoRow : OpenClaim := { program := "ytapfighdnfmdcaa", sum := "96e99d8d850c4a93d0f061605a4d169269f99bd83359120b1067509718ec332a", func := "loop.example/g01084/laws.FnExactPeelLayers", spec := "fnExactPeelLayers", unfollowed := true, recurses := true, apart := false, narrowed := true }
def FnExactPeelLayersUptoSaid : Prop := fnExactPeelLayersUptoRow.holds Try.pinned (OpenSpec.upto fnExactPeelLayersSpec)

/-- 'laws.FnExactOutDegreesOf', WHERE WHAT IT READS IS OF BULK AT MOST 1048576: true; the input reads as it did. -/
def fnExactOutDegreesOfUptoRow : OpenClaim := { program := "ytapfighdnfmdcaa", sum := "96e99d8d850c4a93d0f061605a4d169269f99bd83359120b1067509718ec332a", func := "loop.example/g01084/laws.FnExactOutDegreesOf", spec := "fnExactOutDegreesOf", unfollowed := true, recurses := true, apart := false, narrowed := true }
def FnExactOutDegreesOfUptoSaid : Prop := fnExactOutDegreesOfUptoRow.holds Try.pinned (OpenSpec.upto fnExactOutDegreesOfSpec)

/-- 'laws.FnExactOrderOfOrientation', WHERE WHAT IT READS IS OF BULK AT MOST 1048576: true; the input reads as it did. -/
def fnExactOrderOfOrientationUptoRow : OpenClaim := { program := "ytapfighdnfmdcaa", sum := "96e99d8d850c4a93d0f061605a4d169269f99bd83359120b1067509718ec332a", func := "loop.example/g01084/laws.FnExactOrderOfOrientation", spec := "fnExactOrderOfOrientation", unfollowed := true, recurses := true, apart := false, narrowed := true }
def FnExactOrderOfOrientationUptoSaid : Prop := fnExactOrderOfOrientationUptoRow.holds Try.pinned (OpenSpec.upto fnExactOrderOfOrientationSpec)

/-- 'laws.FnExactHeightsOf', WHERE WHAT IT READS IS OF BULK AT MOST 1048576: true; the input reads as it did. -/
def fnExactHeightsOfUptoRow : OpenClaim := { program := "ytapfighdnfmdcaa", sum := "96e99d8d850c4a93d0f061605a4d169269f99bd83359120b1067509718ec332a", func := "loop.example/g01084/laws.FnExactHeightsOf", spec := "fnExactHeightsOf", unfollowed := true, recurses := true, apart := false, narrowed := true }
def FnExactHeightsOfUptoSaid : Prop := fnExactHeightsOfUptoRow.holds Try.pinned (OpenSpec.upto fnExactHeightsOfSpec)

/-- 'laws.FnExactForestLabels', WHERE WHAT IT READS IS OF BULK AT MOST 1048576: true; the input reads as it did. -/
def fnExactForestLabelsUptoRow : OpenClaim := { program := "ytapfighdnfmdcaa", sum := "96e99d8d850c4a93d0f061605a4d169269f99bd83359120b1067509718ec332a", func := "loop.example/g01084/laws.FnExactForestLabels", spec := "fnExactForestLabels", unfollowed := true, recurses := true, apart := false, narrowed := true }
def FnExactForestLabelsUptoSaid : Prop := fnExactForestLabelsUptoRow.holds Try.pinned (OpenSpec.upto fnExactForestLabelsSpec)

/-- 'laws.FnExactForestOrientation', WHERE WHAT IT READS IS OF BULK AT MOST 1048576: true; the input reads as it did. -/
def fnExactForestOrientationUptoRow : OpenClaim := { program := "ytapfighdnfmdcaa", sum := "96e99d8d850c4a93d0f061605a4d169269f99bd83359120b1067509718ec332a", func := "loop.example/g01084/laws.FnExactForestOrientation", spec := "fnExactForestOrientation", unfollowed := true, recurses := true, apart := false, narrowed := true }
def FnExactForestOrientationUptoSaid : Prop := fnExactForestOrientationUptoRow.holds Try.pinned (OpenSpec.upto fnExactForestOrientationSpec)

/-- 'laws.FnExactElectLeader', WHERE WHAT IT READS IS OF BULK AT MOST 1048576: true; the input reads as it did. -/
def fnExactElectLeaderUptoRow : OpenClaim := { program := "ytapfighdnfmdcaa", sum := "96e99d8d850c4a93d0f061605a4d169269f99bd83359120b1067509718ec332a", func := "loop.example/g01084/laws.FnExactElectLeader", spec := "fnExactElectLeader", unfollowed := true, recurses := true, apart := false, narrowed := true }
def FnExactElectLeaderUptoSaid : Prop := fnExactElectLeaderUptoRow.holds Try.pinned (OpenSpec.upto fnExactElectLeaderSpec)

end Rows
end Go.Proofs.Ytapfighdnfmdcaa
