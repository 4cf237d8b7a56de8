/-
  No cell of these rows narrows 'for every input' (looked for: loops, veiled, ifaces, maps, wideKeys, modest, calm, conditions, laid).
  DERIVED. THE GIVEN ROWS OF THIS SEAT. 6 by the template 'for every input the law returns true; each argument reads behind the call as it read before'; 0 by the template 'total and deterministic' (their statements: YtlignkgfclenkaaTotals.lean).
  GIVEN WITH THE SEED: the statements are not yours to turn. If you find one false, say at which input.
  Laid BY PROGRAM, IN A SANDBOX (cutbox-rows.mjs): the forced cells as the released guide's own fill.sh prints them over the translation 15e3a720920e7fc7… (all of the seat's roots in one cut). By AI agents, Wed Nov 11 2026. No macro, syntax, notation, axiom, sorry.
-/
import Derived.Test.YtlignkgfclenkaaChecked
import GoSem.Claim
import GoSem.ClaimJoined
import GoSem.ClaimMapViews
import Derived.JoinedTies
import Derived.KernelRfl
namespace Go.Proofs.Ytlignkgfclenkaa
/- THE CELL 'sum', in the pinned program and in every row, IS THE sha256 OF THE DUMP (.gsa) THAT YtlignkgfclenkaaProg.lean LOADS. Nothing in Lean hashes anything: it is a label: what it is worth is what the hold of that sum in a sandbox is worth. -/
noncomputable def Try.pinned : Pinned := { name := "ytlignkgfclenkaa", sum := "15e3a720920e7fc7dab0639f7c317997a334060fb3d8e2f04a054e69b7939955", checked := Try.checked }
namespace Rows
def none {H : Type} : Left H := { results := [], args := [] }

/-- 'laws.FnExactChildView': WHATEVER THE INPUT: true; the input reads as it did. -/
def fnExactChildViewSpec : ChangeSpec := { name := "fnExactChildView", fn := fun _ => fun
  | [d1, d2] => { results := [.lit (.bool true)], args := [d1, d2] }
  | _ => none }
def fnExactChildViewRow : OpenClaim := { program := "ytlignkgfclenkaa", sum := "15e3a720920e7fc7dab0639f7c317997a334060fb3d8e2f04a054e69b7939955", func := "loop.example/g01084/laws.FnExactChildView", spec := "fnExactChildView", inPlace := ["internal/abi.NoEscape"], recurses := true, apart := false }
def FnExactChildViewSaid : Prop := fnExactChildViewRow.holds Try.pinned (OpenSpec.ofChange fnExactChildViewSpec)

/-- ITS FALSE NEIGHBOUR: 'it returns false'. Refute it at one input. -/
def fnExactChildViewWrong : ChangeSpec := { name := "fnExactChildView", fn := fun _ => fun
  | [d1, d2] => { results := [.lit (.bool false)], args := [d1, d2] }
  | _ => none }
def FnExactChildViewWrongFalsely : Prop := fnExactChildViewRow.holds Try.pinned (OpenSpec.ofChange fnExactChildViewWrong)

/-- 'laws.FnExactCutView': WHATEVER THE INPUT: true; the input reads as it did. -/
def fnExactCutViewSpec : ChangeSpec := { name := "fnExactCutView", fn := fun _ => fun
  | [d1, d2] => { results := [.lit (.bool true)], args := [d1, d2] }
  | _ => none }
def fnExactCutViewRow : OpenClaim := { program := "ytlignkgfclenkaa", sum := "15e3a720920e7fc7dab0639f7c317997a334060fb3d8e2f04a054e69b7939955", func := "loop.example/g01084/laws.FnExactCutView", spec := "fnExactCutView", inPlace := ["internal/abi.NoEscape"], recurses := true, apart := false }
def FnExactCutViewSaid : Prop := fnExactCutViewRow.holds Try.pinned (OpenSpec.ofChange fnExactCutViewSpec)

/-- ITS FALSE NEIGHBOUR: 'it returns false'. Refute it at one input. -/
def fnExactCutViewWrong : ChangeSpec := { name := "fnExactCutView", fn := fun _ => fun
  | [d1, d2] => { results := [.lit (.bool false)], args := [d1, d2] }
  | _ => none }
def FnExactCutViewWrongFalsely : Prop := fnExactCutViewRow.holds Try.pinned (OpenSpec.ofChange fnExactCutViewWrong)

/-- 'laws.FnExactIsTable': WHATEVER THE INPUT: true; the input reads as it did. -/
def fnExactIsTableSpec : ChangeSpec := { name := "fnExactIsTable", fn := fun _ => fun
  | [d] => { results := [.lit (.bool true)], args := [d] }
  | _ => none }
def fnExactIsTableRow : OpenClaim := { program := "ytlignkgfclenkaa", sum := "15e3a720920e7fc7dab0639f7c317997a334060fb3d8e2f04a054e69b7939955", func := "loop.example/g01084/laws.FnExactIsTable", spec := "fnExactIsTable", recurses := true, apart := false }
def FnExactIsTableSaid : Prop := fnExactIsTableRow.holds Try.pinned (OpenSpec.ofChange fnExactIsTableSpec)

/-- ITS FALSE NEIGHBOUR: 'it returns false'. Refute it at one input. -/
def fnExactIsTableWrong : ChangeSpec := { name := "fnExactIsTable", fn := fun _ => fun
  | [d] => { results := [.lit (.bool false)], args := [d] }
  | _ => none }
def FnExactIsTableWrongFalsely : Prop := fnExactIsTableRow.holds Try.pinned (OpenSpec.ofChange fnExactIsTableWrong)

/-- 'laws.FnExactMergeTables': WHATEVER THE INPUT: true; the input reads as it did. -/
def fnExactMergeTablesSpec : ChangeSpec := { name := "fnExactMergeTables", fn := fun _ => fun
  | [d1, d2] => { results := [.lit (.bool true)], args := [d1, d2] }
  | _ => none }
def fnExactMergeTablesRow : OpenClaim := { program := "ytlignkgfclenkaa", sum := "15e3a720920e7fc7dab0639f7c317997a334060fb3d8e2f04a054e69b7939955", func := "loop.example/g01084/laws.FnExactMergeTables", spec := "fnExactMergeTables", inPlace := ["internal/bytealg.abigen_runtime_cmpstring"], unfollowed := true, recurses := true, apart := false }
def FnExactMergeTablesSaid : Prop := fnExactMergeTablesRow.holds Try.pinned (OpenSpec.ofChange fnExactMergeTablesSpec)

/-- ITS FALSE NEIGHBOUR: 'it returns false'. Refute it at one input. -/
def fnExactMergeTablesWrong : ChangeSpec := { name := "fnExactMergeTables", fn := fun _ => fun
  | [d1, d2] => { results := [.lit (.bool false)], args := [d1, d2] }
  | _ => none }
def FnExactMergeTablesWrongFalsely : Prop := fnExactMergeTablesRow.holds Try.pinned (OpenSpec.ofChange fnExactMergeTablesWrong)

/-- 'laws.FnSubsets': WHATEVER THE INPUT: true; the input reads as it did. -/
def fnSubsetsSpec : ChangeSpec := { name := "fnSubsets", fn := fun _ => fun
  | [d1, d2] => { results := [.lit (.bool true)], args := [d1, d2] }
  | _ => none }
def fnSubsetsRow : OpenClaim := { program := "ytlignkgfclenkaa", sum := "15e3a720920e7fc7dab0639f7c317997a334060fb3d8e2f04a054e69b7939955", func := "loop.example/g01084/laws.FnSubsets", spec := "fnSubsets", apart := false }
def FnSubsetsSaid : Prop := fnSubsetsRow.holds Try.pinned (OpenSpec.ofChange fnSubsetsSpec)

/-- ITS FALSE NEIGHBOUR: 'it returns false'. Refute it at one input. -/
def fnSubsetsWrong : ChangeSpec := { name := "fnSubsets", fn := fun _ => fun
  | [d1, d2] => { results := [.lit (.bool false)], args := [d1, d2] }
  | _ => none }
def FnSubsetsWrongFalsely : Prop := fnSubsetsRow.holds Try.pinned (OpenSpec.ofChange fnSubsetsWrong)

/-- 'laws.FnSums': WHATEVER THE INPUT: true; the input reads as it did. -/
def fnSumsSpec : ChangeSpec := { name := "fnSums", fn := fun _ => fun
  | [d1, d2] => { results := [.lit (.bool true)], args := [d1, d2] }
  | _ => none }
def fnSumsRow : OpenClaim := { program := "ytlignkgfclenkaa", sum := "15e3a720920e7fc7dab0639f7c317997a334060fb3d8e2f04a054e69b7939955", func := "loop.example/g01084/laws.FnSums", spec := "fnSums", apart := false }
def FnSumsSaid : Prop := fnSumsRow.holds Try.pinned (OpenSpec.ofChange fnSumsSpec)

/-- ITS FALSE NEIGHBOUR: 'it returns false'. Refute it at one input. -/
def fnSumsWrong : ChangeSpec := { name := "fnSums", fn := fun _ => fun
  | [d1, d2] => { results := [.lit (.bool false)], args := [d1, d2] }
  | _ => none }
def FnSumsWrongFalsely : Prop := fnSumsRow.holds Try.pinned (OpenSpec.ofChange fnSumsWrong)

/- THE SECOND FORM. 'bulk': how many values and letters a reading holds, each counted each time it is reached (what is shared counts as often as it is met; a slice's spare places count too). A statement '..UptoSaid' is the law's where the arguments, and the package variables that the reading takes, are together of bulk at most 1048576: NARROWER than '..Said'. Prove '..Said' where nothing that the law and all that it calls make is longer than what came in: it says more and counts as full. Else prove '..UptoSaid'. A law counts once. -/
mutual
def uptoBulk {H : Type} : DataW H → Nat
  | .lit (.string bytes) => bytes.length + 1
  | .lit _ => 1
  | .nil => 1
  | .ptr d => uptoBulk d + 1
  | .slice elems spare => uptoBulkAll elems + uptoBulkAll spare + 1
  | .agg parts => uptoBulkAll parts + 1
  | .iface _ d => uptoBulk d + 1
  | .map entries => uptoBulkEntries entries + 1
  | .held _ => 1
def uptoBulkAll {H : Type} : List (DataW H) → Nat
  | [] => 0
  | d :: r => uptoBulk d + uptoBulkAll r
def uptoBulkEntries {H : Type} : List (Lit × DataW H) → Nat
  | [] => 0
  | x :: r => uptoBulkEntry x + uptoBulkEntries r
def uptoBulkEntry {H : Type} : Lit × DataW H → Nat
  | (.string bytes, d) => bytes.length + uptoBulk d + 1
  | (_, d) => uptoBulk d + 1
 end
def uptoSmall : (H : Type) → List (DataW H) → Bool := fun _ ds => decide (uptoBulkAll ds ≤ 1048576)
def OpenSpec.upto (s : _root_.Go.ChangeSpec) : _root_.Go.OpenSpec := { _root_.Go.OpenSpec.ofChange s with cond := some uptoSmall }

/-- 'laws.FnExactChildView', WHERE WHAT IT READS IS OF BULK AT MOST 1048576: true; the input reads as it did. -/
def fnExactChildViewUptoRow : OpenClaim := { program := "ytlignkgfclenkaa", sum := "15e3a720920e7fc7dab0639f7c317997a334060fb3d8e2f04a054e69b7939955", func := "loop.example/g01084/laws.FnExactChildView", spec := "fnExactChildView", inPlace := ["internal/abi.NoEscape"], recurses := true, apart := false, narrowed := true }
def FnExactChildViewUptoSaid : Prop := fnExactChildViewUptoRow.holds Try.pinned (OpenSpec.upto fnExactChildViewSpec)

/-- 'laws.FnExactCutView', WHERE WHAT IT READS IS OF BULK AT MOST 1048576: true; the input reads as it did. -/
def fnExactCutViewUptoRow : OpenClaim := { program := "ytlignkgfclenkaa", sum := "15e3a720920e7fc7dab0639f7c317997a334060fb3d8e2f04a054e69b7939955", func := "loop.example/g01084/laws.FnExactCutView", spec := "fnExactCutView", inPlace := ["internal/abi.NoEscape"], recurses := true, apart := false, narrowed := true }
def FnExactCutViewUptoSaid : Prop := fnExactCutViewUptoRow.holds Try.pinned (OpenSpec.upto fnExactCutViewSpec)

/-- 'laws.FnExactIsTable', WHERE WHAT IT READS IS OF BULK AT MOST 1048576: true; the input reads as it did. -/
def fnExactIsTableUptoRow : OpenClaim := { program := "ytlignkgfclenkaa", sum := "15e3a720920e7fc7dab0639f7c317997a334060fb3d8e2f04a054e69b7939955", func := "loop.example/g01084/laws.FnExactIsTable", spec := "fnExactIsTable", recurses := true, apart := false, narrowed := true }
def FnExactIsTableUptoSaid : Prop := fnExactIsTableUptoRow.holds Try.pinned (OpenSpec.upto fnExactIsTableSpec)

/-- 'laws.FnExactMergeTables', WHERE WHAT IT READS IS OF BULK AT MOST 1048576: true; the input reads as it did. -/
def fnExactMergeTablesUptoRow : OpenClaim := { program := "ytlignkgfclenkaa", sum := "15e3a720920e7fc7dab0639f7c317997a334060fb3d8e2f04a054e69b7939955", func := "loop.example/g01084/laws.FnExactMergeTables", spec := "fnExactMergeTables", inPlace := ["internal/bytealg.abigen_runtime_cmpstring"], unfollowed := true, recurses := true, apart := false, narrowed := true }
def FnExactMergeTablesUptoSaid : Prop := fnExactMergeTablesUptoRow.holds Try.pinned (OpenSpec.upto fnExactMergeTablesSpec)

/-- 'laws.FnSubsets', WHERE WHAT IT READS IS OF BULK AT MOST 1048576: true; the input reads as it did. -/
def fnSubsetsUptoRow : OpenClaim := { program := "ytlignkgfclenkaa", sum := "15e3a720920e7fc7dab0639f7c317997a334060fb3d8e2f04a054e69b7939955", func := "loop.example/g01084/laws.FnSubsets", spec := "fnSubsets", apart := false, narrowed := true }
def FnSubsetsUptoSaid : Prop := fnSubsetsUptoRow.holds Try.pinned (OpenSpec.upto fnSubsetsSpec)

/-- 'laws.FnSums', WHERE WHAT IT READS IS OF BULK AT MOST 1048576: true; the input reads as it did. -/
def fnSumsUptoRow : OpenClaim := { program := "ytlignkgfclenkaa", sum := "15e3a720920e7fc7dab0639f7c317997a334060fb3d8e2f04a054e69b7939955", func := "loop.example/g01084/laws.FnSums", spec := "fnSums", apart := false, narrowed := true }
def FnSumsUptoSaid : Prop := fnSumsUptoRow.holds Try.pinned (OpenSpec.upto fnSumsSpec)

end Rows
end Go.Proofs.Ytlignkgfclenkaa
