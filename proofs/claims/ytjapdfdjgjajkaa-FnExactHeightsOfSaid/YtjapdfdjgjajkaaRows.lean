/-
  No cell of these rows narrows 'for every input' (looked for: loops, veiled, ifaces, maps, wideKeys, modest, calm, conditions, laid).
  DERIVED. THE GIVEN ROWS OF THIS SEAT. 3 by the template 'for every input the law returns true; each argument reads behind the call as it read before'; 0 by the template 'total and deterministic' (their statements: YtjapdfdjgjajkaaTotals.lean).
  GIVEN WITH THE SEED: the statements are not yours to turn. If you find one false, say at which input.
  Laid BY PROGRAM, IN A SANDBOX (cutbox-rows.mjs): the forced cells as the released guide's own fill.sh prints them over the translation fb0dd449b330df2e… (all of the seat's roots in one cut). By AI agents, Wed Nov 11 2026. No macro, syntax, notation, axiom, sorry.
-/
import Derived.Test.YtjapdfdjgjajkaaChecked
import GoSem.Claim
import GoSem.ClaimJoined
import GoSem.ClaimMapViews
import Derived.JoinedTies
import Derived.KernelRfl
namespace Go.Proofs.Ytjapdfdjgjajkaa
/- THE CELL 'sum', in the pinned program and in every row, IS THE sha256 OF THE DUMP (.gsa) THAT YtjapdfdjgjajkaaProg.lean LOADS. Nothing in Lean hashes anything: it is a label: what it is worth is what the hold of that sum in a sandbox is worth. -/
noncomputable def Try.pinned : Pinned := { name := "ytjapdfdjgjajkaa", sum := "fb0dd449b330df2e712c4d9137763a56b371739b7c118fcc2818a7617f7f2532", checked := Try.checked }
namespace Rows
def none {H : Type} : Left H := { results := [], args := [] }

/-- 'laws.FnExactTokenWalk': WHATEVER THE INPUT: true; the input reads as it did. -/
def fnExactTokenWalkSpec : ChangeSpec := { name := "fnExactTokenWalk", fn := fun _ => fun
  | [d1, d2] => { results := [.lit (.bool true)], args := [d1, d2] }
  | _ => none }
def fnExactTokenWalkRow : OpenClaim := { program := "ytjapdfdjgjajkaa", sum := "fb0dd449b330df2e712c4d9137763a56b371739b7c118fcc2818a7617f7f2532", func := "loop.example/g01084/laws.FnExactTokenWalk", spec := "fnExactTokenWalk", unfollowed := true, recurses := true, plainKeys := false, apart := false }
def FnExactTokenWalkSaid : Prop := fnExactTokenWalkRow.holds Try.pinned (OpenSpec.ofChange fnExactTokenWalkSpec)

/-- ITS FALSE NEIGHBOUR: 'it returns false'. Refute it at one input. -/
def fnExactTokenWalkWrong : ChangeSpec := { name := "fnExactTokenWalk", fn := fun _ => fun
  | [d1, d2] => { results := [.lit (.bool false)], args := [d1, d2] }
  | _ => none }
def FnExactTokenWalkWrongFalsely : Prop := fnExactTokenWalkRow.holds Try.pinned (OpenSpec.ofChange fnExactTokenWalkWrong)

/-- 'laws.FnExactIsTokenWalk': WHATEVER THE INPUT: true; the input reads as it did. -/
def fnExactIsTokenWalkSpec : ChangeSpec := { name := "fnExactIsTokenWalk", fn := fun _ => fun
  | [d1, d2, d3] => { results := [.lit (.bool true)], args := [d1, d2, d3] }
  | _ => none }
def fnExactIsTokenWalkRow : OpenClaim := { program := "ytjapdfdjgjajkaa", sum := "fb0dd449b330df2e712c4d9137763a56b371739b7c118fcc2818a7617f7f2532", func := "loop.example/g01084/laws.FnExactIsTokenWalk", spec := "fnExactIsTokenWalk", unfollowed := true, recurses := true, plainKeys := false, apart := false }
def FnExactIsTokenWalkSaid : Prop := fnExactIsTokenWalkRow.holds Try.pinned (OpenSpec.ofChange fnExactIsTokenWalkSpec)

/-- ITS FALSE NEIGHBOUR: 'it returns false'. Refute it at one input. -/
def fnExactIsTokenWalkWrong : ChangeSpec := { name := "fnExactIsTokenWalk", fn := fun _ => fun
  | [d1, d2, d3] => { results := [.lit (.bool false)], args := [d1, d2, d3] }
  | _ => none }
def FnExactIsTokenWalkWrongFalsely : Prop := fnExactIsTokenWalkRow.holds Try.pinned (OpenSpec.ofChange fnExactIsTokenWalkWrong)

/-- 'laws.FnExactHeightsOf': WHATEVER THE INPUT: true; the input reads as it did. -/
def fnExactHeightsOfSpec : ChangeSpec := { name := "fnExactHeightsOf", fn := fun _ => fun
  | [d1, d2] => { results := [.lit (.bool true)], args := [d1, d2] }
  | _ => none }
def fnExactHeightsOfRow : OpenClaim := { program := "ytjapdfdjgjajkaa", sum := "fb0dd449b330df2e712c4d9137763a56b371739b7c118fcc2818a7617f7f2532", func := "loop.example/g01084/laws.FnExactHeightsOf", spec := "fnExactHeightsOf", unfollowed := true, recurses := true, plainKeys := false, apart := false }
def FnExactHeightsOfSaid : Prop := fnExactHeightsOfRow.holds Try.pinned (OpenSpec.ofChange fnExactHeightsOfSpec)

/-- ITS FALSE NEIGHBOUR: 'it returns false'. Refute it at one input. -/
def fnExactHeightsOfWrong : ChangeSpec := { name := "fnExactHeightsOf", fn := fun _ => fun
  | [d1, d2] => { results := [.lit (.bool false)], args := [d1, d2] }
  | _ => none }
def FnExactHeightsOfWrongFalsely : Prop := fnExactHeightsOfRow.holds Try.pinned (OpenSpec.ofChange fnExactHeightsOfWrong)

/- THE SECOND FORM. 'bulk': how many values and letters a reading holds, each counted each time it is reached (what is shared counts as often as it is met; a slice's spare places count too). A statement '..UptoSaid' is the law's where the arguments, and the package variables that the reading takes, are together of bulk at most 1048576: NARROWER than '..Said'. Prove '..Said' where nothing that the law and all that it calls make is longer than what came in: it says more and counts as full. Else prove '..UptoSaid'. A law counts once. -/
mutual
def uptoBulk {H : Type} : DataW H → Nat
  | .lit (.string bytes) => bytes.length + 1
  | .lit _ => 1
  | .nil => 1
  | .ptr d => uptoBulk d + 1
  | .slice elems spare => uptoBulkAll elems + uptoBulkAll spare + 1
  | .agg parts => uptoBulkAll parts + 1
  | .iface _ d => uptoBulk d + 1
  | .map entries => uptoBulkEntries entries + 1
  | .held _ => 1
def uptoBulkAll {H : Type} : List (DataW H) → Nat
  | [] => 0
  | d :: r => uptoBulk d + uptoBulkAll r
def uptoBulkEntries {H : Type} : List (Lit × DataW H) → Nat
  | [] => 0
  | x :: r => uptoBulkEntry x + uptoBulkEntries r
def uptoBulkEntry {H : Type} : Lit × DataW H → Nat
  | (.string bytes, d) => bytes.length + uptoBulk d + 1
  | (_, d) => uptoBulk d + 1
 end
def uptoSmall : (H : Type) → List (DataW H) → Bool := fun _ ds => decide (uptoBulkAll ds ≤ 1048576)
def OpenSpec.upto (s : _root_.Go.ChangeSpec) : _root_.Go.OpenSpec := { _root_.Go.OpenSpec.ofChange s with cond := some uptoSmall }

/-- 'laws.FnExactTokenWalk', WHERE WHAT IT READS IS OF BULK AT MOST 1048576: true; the input reads as it did. -/
def fnExactTokenWalkUptoRow : OpenClaim := { program := "ytjapdfdjgjajkaa", sum := "fb0dd449b330df2e712c4d9137763a56b371739b7c118fcc2818a7617f7f2532", func := "loop.example/g01084/laws.FnExactTokenWalk", spec := "fnExactTokenWalk", unfollowed := true, recurses := true, plainKeys := false, apart := false, narrowed := true }
def FnExactTokenWalkUptoSaid : Prop := fnExactTokenWalkUptoRow.holds Try.pinned (OpenSpec.upto fnExactTokenWalkSpec)

/-- 'laws.FnExactIsTokenWalk', WHERE WHAT IT READS IS OF BULK AT MOST 1048576: true; the input reads as it did. -/
def fnExactIsTokenWalkUptoRow : OpenClaim := { program := "ytjapdfdjgjajkaa", sum := "fb0dd449b330df2e712c4d9137763a56b371739b7c118fcc2818a7617f7f2532", func := "loop.example/g01084/laws.FnExactIsTokenWalk", spec := "fnExactIsTokenWalk", unfollowed := true, recurses := true, plainKeys := false, apart := false, narrowed := true }
def FnExactIsTokenWalkUptoSaid : Prop := fnExactIsTokenWalkUptoRow.holds Try.pinned (OpenSpec.upto fnExactIsTokenWalkSpec)

/-- 'laws.FnExactHeightsOf', WHERE WHAT IT READS IS OF BULK AT MOST 1048576: true; the input reads as it did. -/
def fnExactHeightsOfUptoRow : OpenClaim := { program := "ytjapdfdjgjajkaa", sum := "fb0dd449b330df2e712c4d9137763a56b371739b7c118fcc2818a7617f7f2532", func := "loop.example/g01084/laws.FnExactHeightsOf", spec := "fnExactHeightsOf", unfollowed := true, recurses := true, plainKeys := false, apart := false, narrowed := true }
def FnExactHeightsOfUptoSaid : Prop := fnExactHeightsOfUptoRow.holds Try.pinned (OpenSpec.upto fnExactHeightsOfSpec)

end Rows
end Go.Proofs.Ytjapdfdjgjajkaa
