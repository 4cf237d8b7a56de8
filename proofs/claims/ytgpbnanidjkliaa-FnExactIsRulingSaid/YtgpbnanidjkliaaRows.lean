/-
  No cell of these rows narrows 'for every input' (looked for: loops, veiled, ifaces, maps, wideKeys, modest, calm, conditions, laid).
  DERIVED. THE GIVEN ROWS OF THIS SEAT. 12 by the template 'for every input the law returns true; each argument reads behind the call as it read before'; 0 by the template 'total and deterministic' (their statements: YtgpbnanidjkliaaTotals.lean).
  GIVEN WITH THE SEED: the statements are not yours to turn. If you find one false, say at which input.
  Laid BY PROGRAM, IN A SANDBOX (cutbox-rows.mjs): the forced cells as the released guide's own fill.sh prints them over the translation 05d942e328ca5ea1… (all of the seat's roots in one cut). By AI agents, Wed Nov 11 2026. No macro, syntax, notation, axiom, sorry.
-/
import Derived.Test.YtgpbnanidjkliaaChecked
import GoSem.Claim
import GoSem.ClaimJoined
import GoSem.ClaimMapViews
import Derived.JoinedTies
import Derived.KernelRfl
namespace Go.Proofs.Ytgpbnanidjkliaa
/- THE CELL 'sum', in the pinned program and in every row, IS THE sha256 OF THE DUMP (.gsa) THAT YtgpbnanidjkliaaProg.lean LOADS. Nothing in Lean hashes anything: it is a label: what it is worth is what the hold of that sum in a sandbox is worth. -/
noncomputable def Try.pinned : Pinned := { name := "ytgpbnanidjkliaa", sum := "05d942e328ca5ea1d780b93d13ecee57325102cb888a140987d1b824349d3a67", checked := Try.checked }
namespace Rows
def none {H : Type} : Left H := { results := [], args := [] }

/-- 'laws.FnExactTreeRoot': WHATEVER THE INPUT: true; the input reads as it did. -/
def fnExactTreeRootSpec : ChangeSpec := { name := "fnExactTreeRoot", fn := fun _ => fun
  | [d1, d2] => { results := [.lit (.bool true)], args := [d1, d2] }
  | _ => none }
def fnExactTreeRootRow : OpenClaim := { program := "ytgpbnanidjkliaa", sum := "05d942e328ca5ea1d780b93d13ecee57325102cb888a140987d1b824349d3a67", func := "loop.example/g01084/laws.FnExactTreeRoot", spec := "fnExactTreeRoot", unfollowed := true, recurses := true, plainKeys := false, apart := false }
def FnExactTreeRootSaid : Prop := fnExactTreeRootRow.holds Try.pinned (OpenSpec.ofChange fnExactTreeRootSpec)

/-- ITS FALSE NEIGHBOUR: 'it returns false'. Refute it at one input. -/
def fnExactTreeRootWrong : ChangeSpec := { name := "fnExactTreeRoot", fn := fun _ => fun
  | [d1, d2] => { results := [.lit (.bool false)], args := [d1, d2] }
  | _ => none }
def FnExactTreeRootWrongFalsely : Prop := fnExactTreeRootRow.holds Try.pinned (OpenSpec.ofChange fnExactTreeRootWrong)

/-- 'laws.FnExactTreeDepths': WHATEVER THE INPUT: true; the input reads as it did. -/
def fnExactTreeDepthsSpec : ChangeSpec := { name := "fnExactTreeDepths", fn := fun _ => fun
  | [d1, d2] => { results := [.lit (.bool true)], args := [d1, d2] }
  | _ => none }
def fnExactTreeDepthsRow : OpenClaim := { program := "ytgpbnanidjkliaa", sum := "05d942e328ca5ea1d780b93d13ecee57325102cb888a140987d1b824349d3a67", func := "loop.example/g01084/laws.FnExactTreeDepths", spec := "fnExactTreeDepths", unfollowed := true, recurses := true, plainKeys := false, apart := false }
def FnExactTreeDepthsSaid : Prop := fnExactTreeDepthsRow.holds Try.pinned (OpenSpec.ofChange fnExactTreeDepthsSpec)

/-- ITS FALSE NEIGHBOUR: 'it returns false'. Refute it at one input. -/
def fnExactTreeDepthsWrong : ChangeSpec := { name := "fnExactTreeDepths", fn := fun _ => fun
  | [d1, d2] => { results := [.lit (.bool false)], args := [d1, d2] }
  | _ => none }
def FnExactTreeDepthsWrongFalsely : Prop := fnExactTreeDepthsRow.holds Try.pinned (OpenSpec.ofChange fnExactTreeDepthsWrong)

/-- 'laws.FnExactIsOrientation': WHATEVER THE INPUT: true; the input reads as it did. -/
def fnExactIsOrientationSpec : ChangeSpec := { name := "fnExactIsOrientation", fn := fun _ => fun
  | [d1, d2] => { results := [.lit (.bool true)], args := [d1, d2] }
  | _ => none }
def fnExactIsOrientationRow : OpenClaim := { program := "ytgpbnanidjkliaa", sum := "05d942e328ca5ea1d780b93d13ecee57325102cb888a140987d1b824349d3a67", func := "loop.example/g01084/laws.FnExactIsOrientation", spec := "fnExactIsOrientation", unfollowed := true, recurses := true, plainKeys := false, apart := false }
def FnExactIsOrientationSaid : Prop := fnExactIsOrientationRow.holds Try.pinned (OpenSpec.ofChange fnExactIsOrientationSpec)

/-- ITS FALSE NEIGHBOUR: 'it returns false'. Refute it at one input. -/
def fnExactIsOrientationWrong : ChangeSpec := { name := "fnExactIsOrientation", fn := fun _ => fun
  | [d1, d2] => { results := [.lit (.bool false)], args := [d1, d2] }
  | _ => none }
def FnExactIsOrientationWrongFalsely : Prop := fnExactIsOrientationRow.holds Try.pinned (OpenSpec.ofChange fnExactIsOrientationWrong)

/-- 'laws.FnExactTokenWalk': WHATEVER THE INPUT: true; the input reads as it did. -/
def fnExactTokenWalkSpec : ChangeSpec := { name := "fnExactTokenWalk", fn := fun _ => fun
  | [d1, d2] => { results := [.lit (.bool true)], args := [d1, d2] }
  | _ => none }
def fnExactTokenWalkRow : OpenClaim := { program := "ytgpbnanidjkliaa", sum := "05d942e328ca5ea1d780b93d13ecee57325102cb888a140987d1b824349d3a67", func := "loop.example/g01084/laws.FnExactTokenWalk", spec := "fnExactTokenWalk", unfollowed := true, recurses := true, plainKeys := false, apart := false }
def FnExactTokenWalkSaid : Prop := fnExactTokenWalkRow.holds Try.pinned (OpenSpec.ofChange fnExactTokenWalkSpec)

/-- ITS FALSE NEIGHBOUR: 'it returns false'. Refute it at one input. -/
def fnExactTokenWalkWrong : ChangeSpec := { name := "fnExactTokenWalk", fn := fun _ => fun
  | [d1, d2] => { results := [.lit (.bool false)], args := [d1, d2] }
  | _ => none }
def FnExactTokenWalkWrongFalsely : Prop := fnExactTokenWalkRow.holds Try.pinned (OpenSpec.ofChange fnExactTokenWalkWrong)

/-- 'laws.FnExactIsTokenWalk': WHATEVER THE INPUT: true; the input reads as it did. -/
def fnExactIsTokenWalkSpec : ChangeSpec := { name := "fnExactIsTokenWalk", fn := fun _ => fun
  | [d1, d2, d3] => { results := [.lit (.bool true)], args := [d1, d2, d3] }
  | _ => none }
def fnExactIsTokenWalkRow : OpenClaim := { program := "ytgpbnanidjkliaa", sum := "05d942e328ca5ea1d780b93d13ecee57325102cb888a140987d1b824349d3a67", func := "loop.example/g01084/laws.FnExactIsTokenWalk", spec := "fnExactIsTokenWalk", unfollowed := true, recurses := true, plainKeys := false, apart := false }
def FnExactIsTokenWalkSaid : Prop := fnExactIsTokenWalkRow.holds Try.pinned (OpenSpec.ofChange fnExactIsTokenWalkSpec)

/-- ITS FALSE NEIGHBOUR: 'it returns false'. Refute it at one input. -/
def fnExactIsTokenWalkWrong : ChangeSpec := { name := "fnExactIsTokenWalk", fn := fun _ => fun
  | [d1, d2, d3] => { results := [.lit (.bool false)], args := [d1, d2, d3] }
  | _ => none }
def FnExactIsTokenWalkWrongFalsely : Prop := fnExactIsTokenWalkRow.holds Try.pinned (OpenSpec.ofChange fnExactIsTokenWalkWrong)

/-- 'laws.FnExactOrientByIds': WHATEVER THE INPUT: true; the input reads as it did. -/
def fnExactOrientByIdsSpec : ChangeSpec := { name := "fnExactOrientByIds", fn := fun _ => fun
  | [d] => { results := [.lit (.bool true)], args := [d] }
  | _ => none }
def fnExactOrientByIdsRow : OpenClaim := { program := "ytgpbnanidjkliaa", sum := "05d942e328ca5ea1d780b93d13ecee57325102cb888a140987d1b824349d3a67", func := "loop.example/g01084/laws.FnExactOrientByIds", spec := "fnExactOrientByIds", unfollowed := true, recurses := true, plainKeys := false, apart := false }
def FnExactOrientByIdsSaid : Prop := fnExactOrientByIdsRow.holds Try.pinned (OpenSpec.ofChange fnExactOrientByIdsSpec)

/-- ITS FALSE NEIGHBOUR: 'it returns false'. Refute it at one input. -/
def fnExactOrientByIdsWrong : ChangeSpec := { name := "fnExactOrientByIds", fn := fun _ => fun
  | [d] => { results := [.lit (.bool false)], args := [d] }
  | _ => none }
def FnExactOrientByIdsWrongFalsely : Prop := fnExactOrientByIdsRow.holds Try.pinned (OpenSpec.ofChange fnExactOrientByIdsWrong)

/-- 'laws.FnExactDefectiveColouring': WHATEVER THE INPUT: true; the input reads as it did. -/
def fnExactDefectiveColouringSpec : ChangeSpec := { name := "fnExactDefectiveColouring", fn := fun _ => fun
  | [d1, d2] => { results := [.lit (.bool true)], args := [d1, d2] }
  | _ => none }
def fnExactDefectiveColouringRow : OpenClaim := { program := "ytgpbnanidjkliaa", sum := "05d942e328ca5ea1d780b93d13ecee57325102cb888a140987d1b824349d3a67", func := "loop.example/g01084/laws.FnExactDefectiveColouring", spec := "fnExactDefectiveColouring", unfollowed := true, recurses := true, plainKeys := false, apart := false }
def FnExactDefectiveColouringSaid : Prop := fnExactDefectiveColouringRow.holds Try.pinned (OpenSpec.ofChange fnExactDefectiveColouringSpec)

/-- ITS FALSE NEIGHBOUR: 'it returns false'. Refute it at one input. -/
def fnExactDefectiveColouringWrong : ChangeSpec := { name := "fnExactDefectiveColouring", fn := fun _ => fun
  | [d1, d2] => { results := [.lit (.bool false)], args := [d1, d2] }
  | _ => none }
def FnExactDefectiveColouringWrongFalsely : Prop := fnExactDefectiveColouringRow.holds Try.pinned (OpenSpec.ofChange fnExactDefectiveColouringWrong)

/-- 'laws.FnExactIsSinkless': WHATEVER THE INPUT: true; the input reads as it did. -/
def fnExactIsSinklessSpec : ChangeSpec := { name := "fnExactIsSinkless", fn := fun _ => fun
  | [d1, d2, d3] => { results := [.lit (.bool true)], args := [d1, d2, d3] }
  | _ => none }
def fnExactIsSinklessRow : OpenClaim := { program := "ytgpbnanidjkliaa", sum := "05d942e328ca5ea1d780b93d13ecee57325102cb888a140987d1b824349d3a67", func := "loop.example/g01084/laws.FnExactIsSinkless", spec := "fnExactIsSinkless", unfollowed := true, recurses := true, plainKeys := false, apart := false }
def FnExactIsSinklessSaid : Prop := fnExactIsSinklessRow.holds Try.pinned (OpenSpec.ofChange fnExactIsSinklessSpec)

/-- ITS FALSE NEIGHBOUR: 'it returns false'. Refute it at one input. -/
def fnExactIsSinklessWrong : ChangeSpec := { name := "fnExactIsSinkless", fn := fun _ => fun
  | [d1, d2, d3] => { results := [.lit (.bool false)], args := [d1, d2, d3] }
  | _ => none }
def FnExactIsSinklessWrongFalsely : Prop := fnExactIsSinklessRow.holds Try.pinned (OpenSpec.ofChange fnExactIsSinklessWrong)

/-- 'laws.FnExactWaveFrom': WHATEVER THE INPUT: true; the input reads as it did. -/
def fnExactWaveFromSpec : ChangeSpec := { name := "fnExactWaveFrom", fn := fun _ => fun
  | [d1, d2] => { results := [.lit (.bool true)], args := [d1, d2] }
  | _ => none }
def fnExactWaveFromRow : OpenClaim := { program := "ytgpbnanidjkliaa", sum := "05d942e328ca5ea1d780b93d13ecee57325102cb888a140987d1b824349d3a67", func := "loop.example/g01084/laws.FnExactWaveFrom", spec := "fnExactWaveFrom", unfollowed := true, recurses := true, plainKeys := false, apart := false }
def FnExactWaveFromSaid : Prop := fnExactWaveFromRow.holds Try.pinned (OpenSpec.ofChange fnExactWaveFromSpec)

/-- ITS FALSE NEIGHBOUR: 'it returns false'. Refute it at one input. -/
def fnExactWaveFromWrong : ChangeSpec := { name := "fnExactWaveFrom", fn := fun _ => fun
  | [d1, d2] => { results := [.lit (.bool false)], args := [d1, d2] }
  | _ => none }
def FnExactWaveFromWrongFalsely : Prop := fnExactWaveFromRow.holds Try.pinned (OpenSpec.ofChange fnExactWaveFromWrong)

/-- 'laws.FnExactIsRuling': WHATEVER THE INPUT: true; the input reads as it did. -/
def fnExactIsRulingSpec : ChangeSpec := { name := "fnExactIsRuling", fn := fun _ => fun
  | [d1, d2, d3, d4] => { results := [.lit (.bool true)], args := [d1, d2, d3, d4] }
  | _ => none }
def fnExactIsRulingRow : OpenClaim := { program := "ytgpbnanidjkliaa", sum := "05d942e328ca5ea1d780b93d13ecee57325102cb888a140987d1b824349d3a67", func := "loop.example/g01084/laws.FnExactIsRuling", spec := "fnExactIsRuling", unfollowed := true, recurses := true, plainKeys := false, apart := false }
def FnExactIsRulingSaid : Prop := fnExactIsRulingRow.holds Try.pinned (OpenSpec.ofChange fnExactIsRulingSpec)

/-- ITS FALSE NEIGHBOUR: 'it returns false'. Refute it at one input. -/
def fnExactIsRulingWrong : ChangeSpec := { name := "fnExactIsRuling", fn := fun _ => fun
  | [d1, d2, d3, d4] => { results := [.lit (.bool false)], args := [d1, d2, d3, d4] }
  | _ => none }
def FnExactIsRulingWrongFalsely : Prop := fnExactIsRulingRow.holds Try.pinned (OpenSpec.ofChange fnExactIsRulingWrong)

/-- 'laws.FnExactNearestOf': WHATEVER THE INPUT: true; the input reads as it did. -/
def fnExactNearestOfSpec : ChangeSpec := { name := "fnExactNearestOf", fn := fun _ => fun
  | [d1, d2] => { results := [.lit (.bool true)], args := [d1, d2] }
  | _ => none }
def fnExactNearestOfRow : OpenClaim := { program := "ytgpbnanidjkliaa", sum := "05d942e328ca5ea1d780b93d13ecee57325102cb888a140987d1b824349d3a67", func := "loop.example/g01084/laws.FnExactNearestOf", spec := "fnExactNearestOf", unfollowed := true, recurses := true, plainKeys := false, apart := false }
def FnExactNearestOfSaid : Prop := fnExactNearestOfRow.holds Try.pinned (OpenSpec.ofChange fnExactNearestOfSpec)

/-- ITS FALSE NEIGHBOUR: 'it returns false'. Refute it at one input. -/
def fnExactNearestOfWrong : ChangeSpec := { name := "fnExactNearestOf", fn := fun _ => fun
  | [d1, d2] => { results := [.lit (.bool false)], args := [d1, d2] }
  | _ => none }
def FnExactNearestOfWrongFalsely : Prop := fnExactNearestOfRow.holds Try.pinned (OpenSpec.ofChange fnExactNearestOfWrong)

/-- 'laws.FnExactLeastDominating': WHATEVER THE INPUT: true; the input reads as it did. -/
def fnExactLeastDominatingSpec : ChangeSpec := { name := "fnExactLeastDominating", fn := fun _ => fun
  | [d] => { results := [.lit (.bool true)], args := [d] }
  | _ => none }
def fnExactLeastDominatingRow : OpenClaim := { program := "ytgpbnanidjkliaa", sum := "05d942e328ca5ea1d780b93d13ecee57325102cb888a140987d1b824349d3a67", func := "loop.example/g01084/laws.FnExactLeastDominating", spec := "fnExactLeastDominating", unfollowed := true, recurses := true, plainKeys := false, apart := false }
def FnExactLeastDominatingSaid : Prop := fnExactLeastDominatingRow.holds Try.pinned (OpenSpec.ofChange fnExactLeastDominatingSpec)

/-- ITS FALSE NEIGHBOUR: 'it returns false'. Refute it at one input. -/
def fnExactLeastDominatingWrong : ChangeSpec := { name := "fnExactLeastDominating", fn := fun _ => fun
  | [d] => { results := [.lit (.bool false)], args := [d] }
  | _ => none }
def FnExactLeastDominatingWrongFalsely : Prop := fnExactLeastDominatingRow.holds Try.pinned (OpenSpec.ofChange fnExactLeastDominatingWrong)

/- THE SECOND FORM. 'bulk': how many values and letters a reading holds, each counted each time it is reached (what is shared counts as often as it is met; a slice's spare places count too). A statement '..UptoSaid' is the law's where the arguments, and the package variables that the reading takes, are together of bulk at most 1048576: NARROWER than '..Said'. Prove '..Said' where nothing that the law and all that it calls make is longer than what came in: it says more and counts as full. Else prove '..UptoSaid'. A law counts once. -/
mutual
def uptoBulk {H : Type} : DataW H → Nat
  | .lit (.string bytes) => bytes.length + 1
  | .lit _ => 1
  | .nil => 1
  | .ptr d => uptoBulk d + 1
  | .slice elems spare => uptoBulkAll elems + uptoBulkAll spare + 1
  | .agg parts => uptoBulkAll parts + 1
  | .iface _ d => uptoBulk d + 1
  | .map entries => uptoBulkEntries entries + 1
  | .held _ => 1
def uptoBulkAll {H : Type} : List (DataW H) → Nat
  | [] => 0
  | d :: r => uptoBulk d + uptoBulkAll r
def uptoBulkEntries {H : Type} : List (Lit × DataW H) → Nat
  | [] => 0
  | x :: r => uptoBulkEntry x + uptoBulkEntries r
def uptoBulkEntry {H : Type} : Lit × DataW H → Nat
  | (.string bytes, d) => bytes.length + uptoBulk d + 1
  | (_, d) => uptoBulk d + 1
 end
def uptoSmall : (H : Type) → List (DataW H) → Bool := fun _ ds => decide (uptoBulkAll ds ≤ 1048576)
def OpenSpec.upto (s : _root_.Go.ChangeSpec) : _root_.Go.OpenSpec := { _root_.Go.OpenSpec.ofChange s with cond := some uptoSmall }

/-- 'laws.FnExactTreeRoot', WHERE WHAT IT READS IS OF BULK AT MOST 1048576: true; the input reads as it did. -/
def fnExactTreeRootUptoRow : OpenClaim := { program := "ytgpbnanidjkliaa", sum := "05d942e328ca5ea1d780b93d13ecee57325102cb888a140987d1b824349d3a67", func := "loop.example/g01084/laws.FnExactTreeRoot", spec := "fnExactTreeRoot", unfollowed := true, recurses := true, plainKeys := false, apart := false, narrowed := true }
def FnExactTreeRootUptoSaid : Prop := fnExactTreeRootUptoRow.holds Try.pinned (OpenSpec.upto fnExactTreeRootSpec)

/-- 'laws.FnExactTreeDepths', WHERE WHAT IT READS IS OF BULK AT MOST 1048576: true; the input reads as it did. -/
def fnExactTreeDepthsUptoRow : OpenClaim := { program := "ytgpbnanidjkliaa", sum := "05d942e328ca5ea1d780b93d13ecee57325102cb888a140987d1b824349d3a67", func := "loop.example/g01084/laws.FnExactTreeDepths", spec := "fnExactTreeDepths", unfollowed := true, recurses := true, plainKeys := false, apart := false, narrowed := true }
def FnExactTreeDepthsUptoSaid : Prop := fnExactTreeDepthsUptoRow.holds Try.pinned (OpenSpec.upto fnExactTreeDepthsSpec)

/-- 'laws.FnExactIsOrientation', WHERE WHAT IT READS IS OF BULK AT MOST 1048576: true; the input reads as it did. -/
def fnExactIsOrientationUptoRow : OpenClaim := { program := "ytgpbnanidjkliaa", sum := "05d942e328ca5ea1d780b93d13ecee57325102cb888a140987d1b824349d3a67", func := "loop.example/g01084/laws.FnExactIsOrientation", spec := "fnExactIsOrientation", unfollowed := true, recurses := true, plainKeys := false, apart := false, narrowed := true }
def FnExactIsOrientationUptoSaid : Prop := fnExactIsOrientationUptoRow.holds Try.pinned (OpenSpec.upto fnExactIsOrientationSpec)

/-- 'laws.FnExactTokenWalk', WHERE WHAT IT READS IS OF BULK AT MOST 1048576: true; the input reads as it did. -/
def fnExactTokenWalkUptoRow : OpenClaim := { program := "ytgpbnanidjkliaa", sum := "05d942e328ca5ea1d780b93d13ecee57325102cb888a140987d1b824349d3a67", func := "loop.example/g01084/laws.FnExactTokenWalk", spec := "fnExactTokenWalk", unfollowed := true, recurses := true, plainKeys := false, apart := false, narrowed := true }
def FnExactTokenWalkUptoSaid : Prop := fnExactTokenWalkUptoRow.holds Try.pinned (OpenSpec.upto fnExactTokenWalkSpec)

/-- 'laws.FnExactIsTokenWalk', WHERE WHAT IT READS IS OF BULK AT MOST 1048576: true; the input reads as it did. -/
def fnExactIsTokenWalkUptoRow : OpenClaim := { program := "ytgpbnanidjkliaa", sum := "05d942e328ca5ea1d780b93d13ecee57325102cb888a140987d1b824349d3a67", func := "loop.example/g01084/laws.FnExactIsTokenWalk", spec := "fnExactIsTokenWalk", unfollowed := true, recurses := true, plainKeys := false, apart := false, narrowed := true }
def FnExactIsTokenWalkUptoSaid : Prop := fnExactIsTokenWalkUptoRow.holds Try.pinned (OpenSpec.upto fnExactIsTokenWalkSpec)

/-- 'laws.FnExactOrientByIds', WHERE WHAT IT READS IS OF BULK AT MOST 1048576: true; the input reads as it did. -/
def fnExactOrientByIdsUptoRow : OpenClaim := { program := "ytgpbnanidjkliaa", sum := "05d942e328ca5ea1d780b93d13ecee57325102cb888a140987d1b824349d3a67", func := "loop.example/g01084/laws.FnExactOrientByIds", spec := "fnExactOrientByIds", unfollowed := true, recurses := true, plainKeys := false, apart := false, narrowed := true }
def FnExactOrientByIdsUptoSaid : Prop := fnExactOrientByIdsUptoRow.holds Try.pinned (OpenSpec.upto fnExactOrientByIdsSpec)

/-- 'laws.FnExactDefectiveColouring', WHERE WHAT IT READS IS OF BULK AT MOST 1048576: true; the input reads as it did. -/
def fnExactDefectiveColouringUptoRow : OpenClaim := { program := "ytgpbnanidjkliaa", sum := "05d942e328ca5ea1d780b93d13ecee57325102cb888a140987d1b824349d3a67", func := "loop.example/g01084/laws.FnExactDefectiveColouring", spec := "fnExactDefectiveColouring", unfollowed := true, recurses := true, plainKeys := false, apart := false, narrowed := true }
def FnExactDefectiveColouringUptoSaid : Prop := fnExactDefectiveColouringUptoRow.holds Try.pinned (OpenSpec.upto fnExactDefectiveColouringSpec)

/-- 'laws.FnExactIsSinkless', WHERE WHAT IT READS IS OF BULK AT MOST 1048576: true; the input reads as it did. -/
def fnExactIsSinklessUptoRow : OpenClaim := { program := "ytgpbnanidjkliaa", sum := "05d942e328ca5ea1d780b93d13ecee57325102cb888a140987d1b824349d3a67", func := "loop.example/g01084/laws.FnExactIsSinkless", spec := "fnExactIsSinkless", unfollowed := true, recurses := true, plainKeys := false, apart := false, narrowed := true }
def FnExactIsSinklessUptoSaid : Prop := fnExactIsSinklessUptoRow.holds Try.pinned (OpenSpec.upto fnExactIsSinklessSpec)

/-- 'laws.FnExactWaveFrom', WHERE WHAT IT READS IS OF BULK AT MOST 1048576: true; the input reads as it did. -/
def fnExactWaveFromUptoRow : OpenClaim := { program := "ytgpbnanidjkliaa", sum := "05d942e328ca5ea1d780b93d13ecee57325102cb888a140987d1b824349d3a67", func := "loop.example/g01084/laws.FnExactWaveFrom", spec := "fnExactWaveFrom", unfollowed := true, recurses := true, plainKeys := false, apart := false, narrowed := true }
def FnExactWaveFromUptoSaid : Prop := fnExactWaveFromUptoRow.holds Try.pinned (OpenSpec.upto fnExactWaveFromSpec)

/-- 'laws.FnExactIsRuling', WHERE WHAT IT READS IS OF BULK AT MOST 1048576: true; the input reads as it did. -/
def fnExactIsRulingUptoRow : OpenClaim := { program := "ytgpbnanidjkliaa", sum := "05d942e328ca5ea1d780b93d13ecee57325102cb888a140987d1b824349d3a67", func := "loop.example/g01084/laws.FnExactIsRuling", spec := "fnExactIsRuling", unfollowed := true, recurses := true, plainKeys := false, apart := false, narrowed := true }
def FnExactIsRulingUptoSaid : Prop := fnExactIsRulingUptoRow.holds Try.pinned (OpenSpec.upto fnExactIsRulingSpec)

/-- 'laws.FnExactNearestOf', WHERE WHAT IT READS IS OF BULK AT MOST 1048576: true; the input reads as it did. -/
def fnExactNearestOfUptoRow : OpenClaim := { program := "ytgpbnanidjkliaa", sum := "05d942e328ca5ea1d780b93d13ecee57325102cb888a140987d1b824349d3a67", func := "loop.example/g01084/laws.FnExactNearestOf", spec := "fnExactNearestOf", unfollowed := true, recurses := true, plainKeys := false, apart := false, narrowed := true }
def FnExactNearestOfUptoSaid : Prop := fnExactNearestOfUptoRow.holds Try.pinned (OpenSpec.upto fnExactNearestOfSpec)

/-- 'laws.FnExactLeastDominating', WHERE WHAT IT READS IS OF BULK AT MOST 1048576: true; the input reads as it did. -/
def fnExactLeastDominatingUptoRow : OpenClaim := { program := "ytgpbnanidjkliaa", sum := "05d942e328ca5ea1d780b93d13ecee57325102cb888a140987d1b824349d3a67", func := "loop.example/g01084/laws.FnExactLeastDominating", spec := "fnExactLeastDominating", unfollowed := true, recurses := true, plainKeys := false, apart := false, narrowed := true }
def FnExactLeastDominatingUptoSaid : Prop := fnExactLeastDominatingUptoRow.holds Try.pinned (OpenSpec.upto fnExactLeastDominatingSpec)

end Rows
end Go.Proofs.Ytgpbnanidjkliaa
