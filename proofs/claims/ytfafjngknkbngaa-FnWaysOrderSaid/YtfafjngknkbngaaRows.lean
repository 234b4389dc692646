/-
  No cell of these rows narrows 'for every input' (looked for: loops, veiled, ifaces, maps, wideKeys, modest, calm, conditions, laid).
  DERIVED. THE GIVEN ROWS OF THIS SEAT. 12 by the template 'for every input the law returns true; each argument reads behind the call as it read before'; 0 by the template 'total and deterministic' (their statements: YtfafjngknkbngaaTotals.lean).
  GIVEN WITH THE SEED: the statements are not yours to turn. If you find one false, say at which input.
  Laid BY PROGRAM, IN A SANDBOX (cutbox-rows.mjs): the forced cells as the released guide's own fill.sh prints them over the translation 1ed176ae03618536… (all of the seat's roots in one cut). By AI agents, Wed Nov 11 2026. No macro, syntax, notation, axiom, sorry.
-/
import Derived.Test.YtfafjngknkbngaaChecked
import GoSem.Claim
import GoSem.ClaimJoined
import GoSem.ClaimMapViews
import Derived.JoinedTies
import Derived.KernelRfl
namespace Go.Proofs.Ytfafjngknkbngaa
/- THE CELL 'sum', in the pinned program and in every row, IS THE sha256 OF THE DUMP (.gsa) THAT YtfafjngknkbngaaProg.lean LOADS. Nothing in Lean hashes anything: it is a label: what it is worth is what the hold of that sum in a sandbox is worth. -/
noncomputable def Try.pinned : Pinned := { name := "ytfafjngknkbngaa", sum := "1ed176ae036185361d7de265f1ca4b2b2301f493819d9922357130e1fa06dfe8", checked := Try.checked }
namespace Rows
def none {H : Type} : Left H := { results := [], args := [] }

/-- 'laws.FnExactSchemaOk': WHATEVER THE INPUT: true; the input reads as it did. -/
def fnExactSchemaOkSpec : ChangeSpec := { name := "fnExactSchemaOk", fn := fun _ => fun
  | [d] => { results := [.lit (.bool true)], args := [d] }
  | _ => none }
def fnExactSchemaOkRow : OpenClaim := { program := "ytfafjngknkbngaa", sum := "1ed176ae036185361d7de265f1ca4b2b2301f493819d9922357130e1fa06dfe8", func := "loop.example/g00468/laws.FnExactSchemaOk", spec := "fnExactSchemaOk", unfollowed := true, recurses := true, apart := false }
def FnExactSchemaOkSaid : Prop := fnExactSchemaOkRow.holds Try.pinned (OpenSpec.ofChange fnExactSchemaOkSpec)

/-- ITS FALSE NEIGHBOUR: 'it returns false'. Refute it at one input. -/
def fnExactSchemaOkWrong : ChangeSpec := { name := "fnExactSchemaOk", fn := fun _ => fun
  | [d] => { results := [.lit (.bool false)], args := [d] }
  | _ => none }
def FnExactSchemaOkWrongFalsely : Prop := fnExactSchemaOkRow.holds Try.pinned (OpenSpec.ofChange fnExactSchemaOkWrong)

/-- 'laws.FnSchemas': WHATEVER THE INPUT: true; the input reads as it did. -/
def fnSchemasSpec : ChangeSpec := { name := "fnSchemas", fn := fun _ => fun
  | [d] => { results := [.lit (.bool true)], args := [d] }
  | _ => none }
def fnSchemasRow : OpenClaim := { program := "ytfafjngknkbngaa", sum := "1ed176ae036185361d7de265f1ca4b2b2301f493819d9922357130e1fa06dfe8", func := "loop.example/g00468/laws.FnSchemas", spec := "fnSchemas", unfollowed := true, recurses := true, apart := false }
def FnSchemasSaid : Prop := fnSchemasRow.holds Try.pinned (OpenSpec.ofChange fnSchemasSpec)

/-- ITS FALSE NEIGHBOUR: 'it returns false'. Refute it at one input. -/
def fnSchemasWrong : ChangeSpec := { name := "fnSchemas", fn := fun _ => fun
  | [d] => { results := [.lit (.bool false)], args := [d] }
  | _ => none }
def FnSchemasWrongFalsely : Prop := fnSchemasRow.holds Try.pinned (OpenSpec.ofChange fnSchemasWrong)

/-- 'laws.FnExactKeyOfRow': WHATEVER THE INPUT: true; the input reads as it did. -/
def fnExactKeyOfRowSpec : ChangeSpec := { name := "fnExactKeyOfRow", fn := fun _ => fun
  | [d1, d2] => { results := [.lit (.bool true)], args := [d1, d2] }
  | _ => none }
def fnExactKeyOfRowRow : OpenClaim := { program := "ytfafjngknkbngaa", sum := "1ed176ae036185361d7de265f1ca4b2b2301f493819d9922357130e1fa06dfe8", func := "loop.example/g00468/laws.FnExactKeyOfRow", spec := "fnExactKeyOfRow", apart := false }
def FnExactKeyOfRowSaid : Prop := fnExactKeyOfRowRow.holds Try.pinned (OpenSpec.ofChange fnExactKeyOfRowSpec)

/-- ITS FALSE NEIGHBOUR: 'it returns false'. Refute it at one input. -/
def fnExactKeyOfRowWrong : ChangeSpec := { name := "fnExactKeyOfRow", fn := fun _ => fun
  | [d1, d2] => { results := [.lit (.bool false)], args := [d1, d2] }
  | _ => none }
def FnExactKeyOfRowWrongFalsely : Prop := fnExactKeyOfRowRow.holds Try.pinned (OpenSpec.ofChange fnExactKeyOfRowWrong)

/-- 'laws.FnExactRowOk': WHATEVER THE INPUT: true; the input reads as it did. -/
def fnExactRowOkSpec : ChangeSpec := { name := "fnExactRowOk", fn := fun _ => fun
  | [d1, d2] => { results := [.lit (.bool true)], args := [d1, d2] }
  | _ => none }
def fnExactRowOkRow : OpenClaim := { program := "ytfafjngknkbngaa", sum := "1ed176ae036185361d7de265f1ca4b2b2301f493819d9922357130e1fa06dfe8", func := "loop.example/g00468/laws.FnExactRowOk", spec := "fnExactRowOk", unfollowed := true, recurses := true, apart := false }
def FnExactRowOkSaid : Prop := fnExactRowOkRow.holds Try.pinned (OpenSpec.ofChange fnExactRowOkSpec)

/-- ITS FALSE NEIGHBOUR: 'it returns false'. Refute it at one input. -/
def fnExactRowOkWrong : ChangeSpec := { name := "fnExactRowOk", fn := fun _ => fun
  | [d1, d2] => { results := [.lit (.bool false)], args := [d1, d2] }
  | _ => none }
def FnExactRowOkWrongFalsely : Prop := fnExactRowOkRow.holds Try.pinned (OpenSpec.ofChange fnExactRowOkWrong)

/-- 'laws.FnExactWayOf': WHATEVER THE INPUT: true; the input reads as it did. -/
def fnExactWayOfSpec : ChangeSpec := { name := "fnExactWayOf", fn := fun _ => fun
  | [d1, d2, d3] => { results := [.lit (.bool true)], args := [d1, d2, d3] }
  | _ => none }
def fnExactWayOfRow : OpenClaim := { program := "ytfafjngknkbngaa", sum := "1ed176ae036185361d7de265f1ca4b2b2301f493819d9922357130e1fa06dfe8", func := "loop.example/g00468/laws.FnExactWayOf", spec := "fnExactWayOf", unfollowed := true, recurses := true, apart := false }
def FnExactWayOfSaid : Prop := fnExactWayOfRow.holds Try.pinned (OpenSpec.ofChange fnExactWayOfSpec)

/-- ITS FALSE NEIGHBOUR: 'it returns false'. Refute it at one input. -/
def fnExactWayOfWrong : ChangeSpec := { name := "fnExactWayOf", fn := fun _ => fun
  | [d1, d2, d3] => { results := [.lit (.bool false)], args := [d1, d2, d3] }
  | _ => none }
def FnExactWayOfWrongFalsely : Prop := fnExactWayOfRow.holds Try.pinned (OpenSpec.ofChange fnExactWayOfWrong)

/-- 'laws.FnExactRelOk': WHATEVER THE INPUT: true; the input reads as it did. -/
def fnExactRelOkSpec : ChangeSpec := { name := "fnExactRelOk", fn := fun _ => fun
  | [d] => { results := [.lit (.bool true)], args := [d] }
  | _ => none }
def fnExactRelOkRow : OpenClaim := { program := "ytfafjngknkbngaa", sum := "1ed176ae036185361d7de265f1ca4b2b2301f493819d9922357130e1fa06dfe8", func := "loop.example/g00468/laws.FnExactRelOk", spec := "fnExactRelOk", inPlace := ["internal/bytealg.abigen_runtime_cmpstring"], unfollowed := true, recurses := true, apart := false }
def FnExactRelOkSaid : Prop := fnExactRelOkRow.holds Try.pinned (OpenSpec.ofChange fnExactRelOkSpec)

/-- ITS FALSE NEIGHBOUR: 'it returns false'. Refute it at one input. -/
def fnExactRelOkWrong : ChangeSpec := { name := "fnExactRelOk", fn := fun _ => fun
  | [d] => { results := [.lit (.bool false)], args := [d] }
  | _ => none }
def FnExactRelOkWrongFalsely : Prop := fnExactRelOkRow.holds Try.pinned (OpenSpec.ofChange fnExactRelOkWrong)

/-- 'laws.FnReplaced': WHATEVER THE INPUT: true; the input reads as it did. -/
def fnReplacedSpec : ChangeSpec := { name := "fnReplaced", fn := fun _ => fun
  | [d] => { results := [.lit (.bool true)], args := [d] }
  | _ => none }
def fnReplacedRow : OpenClaim := { program := "ytfafjngknkbngaa", sum := "1ed176ae036185361d7de265f1ca4b2b2301f493819d9922357130e1fa06dfe8", func := "loop.example/g00468/laws.FnReplaced", spec := "fnReplaced", inPlace := ["internal/bytealg.abigen_runtime_cmpstring"], unfollowed := true, recurses := true, apart := false }
def FnReplacedSaid : Prop := fnReplacedRow.holds Try.pinned (OpenSpec.ofChange fnReplacedSpec)

/-- ITS FALSE NEIGHBOUR: 'it returns false'. Refute it at one input. -/
def fnReplacedWrong : ChangeSpec := { name := "fnReplaced", fn := fun _ => fun
  | [d] => { results := [.lit (.bool false)], args := [d] }
  | _ => none }
def FnReplacedWrongFalsely : Prop := fnReplacedRow.holds Try.pinned (OpenSpec.ofChange fnReplacedWrong)

/-- 'laws.FnUnique': WHATEVER THE INPUT: true; the input reads as it did. -/
def fnUniqueSpec : ChangeSpec := { name := "fnUnique", fn := fun _ => fun
  | [d] => { results := [.lit (.bool true)], args := [d] }
  | _ => none }
def fnUniqueRow : OpenClaim := { program := "ytfafjngknkbngaa", sum := "1ed176ae036185361d7de265f1ca4b2b2301f493819d9922357130e1fa06dfe8", func := "loop.example/g00468/laws.FnUnique", spec := "fnUnique", inPlace := ["internal/bytealg.abigen_runtime_cmpstring", "slices.overlaps[[]loop.example/g00468/impl.Value]"], unfollowed := true, recurses := true, apart := false }
def FnUniqueSaid : Prop := fnUniqueRow.holds Try.pinned (OpenSpec.ofChange fnUniqueSpec)

/-- ITS FALSE NEIGHBOUR: 'it returns false'. Refute it at one input. -/
def fnUniqueWrong : ChangeSpec := { name := "fnUnique", fn := fun _ => fun
  | [d] => { results := [.lit (.bool false)], args := [d] }
  | _ => none }
def FnUniqueWrongFalsely : Prop := fnUniqueRow.holds Try.pinned (OpenSpec.ofChange fnUniqueWrong)

/-- 'laws.FnExactLookup': WHATEVER THE INPUT: true; the input reads as it did. -/
def fnExactLookupSpec : ChangeSpec := { name := "fnExactLookup", fn := fun _ => fun
  | [d1, d2] => { results := [.lit (.bool true)], args := [d1, d2] }
  | _ => none }
def fnExactLookupRow : OpenClaim := { program := "ytfafjngknkbngaa", sum := "1ed176ae036185361d7de265f1ca4b2b2301f493819d9922357130e1fa06dfe8", func := "loop.example/g00468/laws.FnExactLookup", spec := "fnExactLookup", inPlace := ["internal/bytealg.abigen_runtime_cmpstring"], unfollowed := true, recurses := true, apart := false }
def FnExactLookupSaid : Prop := fnExactLookupRow.holds Try.pinned (OpenSpec.ofChange fnExactLookupSpec)

/-- ITS FALSE NEIGHBOUR: 'it returns false'. Refute it at one input. -/
def fnExactLookupWrong : ChangeSpec := { name := "fnExactLookup", fn := fun _ => fun
  | [d1, d2] => { results := [.lit (.bool false)], args := [d1, d2] }
  | _ => none }
def FnExactLookupWrongFalsely : Prop := fnExactLookupRow.holds Try.pinned (OpenSpec.ofChange fnExactLookupWrong)

/-- 'laws.FnExactRelNew': WHATEVER THE INPUT: true; the input reads as it did. -/
def fnExactRelNewSpec : ChangeSpec := { name := "fnExactRelNew", fn := fun _ => fun
  | [d] => { results := [.lit (.bool true)], args := [d] }
  | _ => none }
def fnExactRelNewRow : OpenClaim := { program := "ytfafjngknkbngaa", sum := "1ed176ae036185361d7de265f1ca4b2b2301f493819d9922357130e1fa06dfe8", func := "loop.example/g00468/laws.FnExactRelNew", spec := "fnExactRelNew", inPlace := ["internal/bytealg.abigen_runtime_cmpstring"], unfollowed := true, recurses := true, apart := false }
def FnExactRelNewSaid : Prop := fnExactRelNewRow.holds Try.pinned (OpenSpec.ofChange fnExactRelNewSpec)

/-- ITS FALSE NEIGHBOUR: 'it returns false'. Refute it at one input. -/
def fnExactRelNewWrong : ChangeSpec := { name := "fnExactRelNew", fn := fun _ => fun
  | [d] => { results := [.lit (.bool false)], args := [d] }
  | _ => none }
def FnExactRelNewWrongFalsely : Prop := fnExactRelNewRow.holds Try.pinned (OpenSpec.ofChange fnExactRelNewWrong)

/-- 'laws.FnInserted': WHATEVER THE INPUT: true; the input reads as it did. -/
def fnInsertedSpec : ChangeSpec := { name := "fnInserted", fn := fun _ => fun
  | [d] => { results := [.lit (.bool true)], args := [d] }
  | _ => none }
def fnInsertedRow : OpenClaim := { program := "ytfafjngknkbngaa", sum := "1ed176ae036185361d7de265f1ca4b2b2301f493819d9922357130e1fa06dfe8", func := "loop.example/g00468/laws.FnInserted", spec := "fnInserted", inPlace := ["internal/bytealg.abigen_runtime_cmpstring", "slices.overlaps[[]loop.example/g00468/impl.Value]"], unfollowed := true, recurses := true, apart := false }
def FnInsertedSaid : Prop := fnInsertedRow.holds Try.pinned (OpenSpec.ofChange fnInsertedSpec)

/-- ITS FALSE NEIGHBOUR: 'it returns false'. Refute it at one input. -/
def fnInsertedWrong : ChangeSpec := { name := "fnInserted", fn := fun _ => fun
  | [d] => { results := [.lit (.bool false)], args := [d] }
  | _ => none }
def FnInsertedWrongFalsely : Prop := fnInsertedRow.holds Try.pinned (OpenSpec.ofChange fnInsertedWrong)

/-- 'laws.FnWaysOrder': WHATEVER THE INPUT: true; the input reads as it did. -/
def fnWaysOrderSpec : ChangeSpec := { name := "fnWaysOrder", fn := fun _ => fun
  | [d] => { results := [.lit (.bool true)], args := [d] }
  | _ => none }
def fnWaysOrderRow : OpenClaim := { program := "ytfafjngknkbngaa", sum := "1ed176ae036185361d7de265f1ca4b2b2301f493819d9922357130e1fa06dfe8", func := "loop.example/g00468/laws.FnWaysOrder", spec := "fnWaysOrder", inPlace := ["internal/bytealg.abigen_runtime_cmpstring", "slices.overlaps[loop.example/g00468/impl.Way]"], unfollowed := true, recurses := true, apart := false }
def FnWaysOrderSaid : Prop := fnWaysOrderRow.holds Try.pinned (OpenSpec.ofChange fnWaysOrderSpec)

/-- ITS FALSE NEIGHBOUR: 'it returns false'. Refute it at one input. -/
def fnWaysOrderWrong : ChangeSpec := { name := "fnWaysOrder", fn := fun _ => fun
  | [d] => { results := [.lit (.bool false)], args := [d] }
  | _ => none }
def FnWaysOrderWrongFalsely : Prop := fnWaysOrderRow.holds Try.pinned (OpenSpec.ofChange fnWaysOrderWrong)

/- THE SECOND FORM. 'bulk': how many values and letters a reading holds, each counted each time it is reached (what is shared counts as often as it is met; a slice's spare places count too). A statement '..UptoSaid' is the law's where the arguments, and the package variables that the reading takes, are together of bulk at most 1048576: NARROWER than '..Said'. Prove '..Said' where nothing that the law and all that it calls make is longer than what came in: it says more and counts as full. Else prove '..UptoSaid'. A law counts once. -/
mutual
def uptoBulk {H : Type} : DataW H → Nat
  | .lit (.string bytes) => bytes.length + 1
  | .lit _ => 1
  | .nil => 1
  | .ptr d => uptoBulk d + 1
  | .slice elems spare => uptoBulkAll elems + uptoBulkAll spare + 1
  | .agg parts => uptoBulkAll parts + 1
  | .iface _ d => uptoBulk d + 1
  | .map entries => uptoBulkEntries entries + 1
  | .held _ => 1
def uptoBulkAll {H : Type} : List (DataW H) → Nat
  | [] => 0
  | d :: r => uptoBulk d + uptoBulkAll r
def uptoBulkEntries {H : Type} : List (Lit × DataW H) → Nat
  | [] => 0
  | x :: r => uptoBulkEntry x + uptoBulkEntries r
def uptoBulkEntry {H : Type} : Lit × DataW H → Nat
  | (.string bytes, d) => bytes.length + uptoBulk d + 1
  | (_, d) => uptoBulk d + 1
 end
def uptoSmall : (H : Type) → List (DataW H) → Bool := fun _ ds => decide (uptoBulkAll ds ≤ 1048576)
def OpenSpec.upto (s : _root_.Go.ChangeSpec) : _root_.Go.OpenSpec := { _root_.Go.OpenSpec.ofChange s with cond := some uptoSmall }

/-- 'laws.FnExactSchemaOk', WHERE WHAT IT READS IS OF BULK AT MOST 1048576: true; the input reads as it did. -/
def fnExactSchemaOkUptoRow : OpenClaim := { program := "ytfafjngknkbngaa", sum := "1ed176ae036185361d7de265f1ca4b2b2301f493819d9922357130e1fa06dfe8", func := "loop.example/g00468/laws.FnExactSchemaOk", spec := "fnExactSchemaOk", unfollowed := true, recurses := true, apart := false, narrowed := true }
def FnExactSchemaOkUptoSaid : Prop := fnExactSchemaOkUptoRow.holds Try.pinned (OpenSpec.upto fnExactSchemaOkSpec)

/-- 'laws.FnSchemas', WHERE WHAT IT READS IS OF BULK AT MOST 1048576: true; the input reads as it did. -/
def fnSchemasUptoRow : OpenClaim := { program := "ytfafjngknkbngaa", sum := "1ed176ae036185361d7de265f1ca4b2b2301f493819d9922357130e1fa06dfe8", func := "loop.example/g00468/laws.FnSchemas", spec := "fnSchemas", unfollowed := true, recurses := true, apart := false, narrowed := true }
def FnSchemasUptoSaid : Prop := fnSchemasUptoRow.holds Try.pinned (OpenSpec.upto fnSchemasSpec)

/-- 'laws.FnExactKeyOfRow', WHERE WHAT IT READS IS OF BULK AT MOST 1048576: true; the input reads as it did. -/
def fnExactKeyOfRowUptoRow : OpenClaim := { program := "ytfafjngknkbngaa", sum := "1ed176ae036185361d7de265f1ca4b2b2301f493819d9922357130e1fa06dfe8", func := "loop.example/g00468/laws.FnExactKeyOfRow", spec := "fnExactKeyOfRow", apart := false, narrowed := true }
def FnExactKeyOfRowUptoSaid : Prop := fnExactKeyOfRowUptoRow.holds Try.pinned (OpenSpec.upto fnExactKeyOfRowSpec)

/-- 'laws.FnExactRowOk', WHERE WHAT IT READS IS OF BULK AT MOST 1048576: true; the input reads as it did. -/
def fnExactRowOkUptoRow : OpenClaim := { program := "ytfafjngknkbngaa", sum := "1ed176ae036185361d7de265f1ca4b2b2301f493819d9922357130e1fa06dfe8", func := "loop.example/g00468/laws.FnExactRowOk", spec := "fnExactRowOk", unfollowed := true, recurses := true, apart := false, narrowed := true }
def FnExactRowOkUptoSaid : Prop := fnExactRowOkUptoRow.holds Try.pinned (OpenSpec.upto fnExactRowOkSpec)

/-- 'laws.FnExactWayOf', WHERE WHAT IT READS IS OF BULK AT MOST 1048576: true; the input reads as it did. -/
def fnExactWayOfUptoRow : OpenClaim := { program := "ytfafjngknkbngaa", sum := "1ed176ae036185361d7de265f1ca4b2b2301f493819d9922357130e1fa06dfe8", func := "loop.example/g00468/laws.FnExactWayOf", spec := "fnExactWayOf", unfollowed := true, recurses := true, apart := false, narrowed := true }
def FnExactWayOfUptoSaid : Prop := fnExactWayOfUptoRow.holds Try.pinned (OpenSpec.upto fnExactWayOfSpec)

/-- 'laws.FnExactRelOk', WHERE WHAT IT READS IS OF BULK AT MOST 1048576: true; the input reads as it did. -/
def fnExactRelOkUptoRow : OpenClaim := { program := "ytfafjngknkbngaa", sum := "1ed176ae036185361d7de265f1ca4b2b2301f493819d9922357130e1fa06dfe8", func := "loop.example/g00468/laws.FnExactRelOk", spec := "fnExactRelOk", inPlace := ["internal/bytealg.abigen_runtime_cmpstring"], unfollowed := true, recurses := true, apart := false, narrowed := true }
def FnExactRelOkUptoSaid : Prop := fnExactRelOkUptoRow.holds Try.pinned (OpenSpec.upto fnExactRelOkSpec)

/-- 'laws.FnReplaced', WHERE WHAT IT READS IS OF BULK AT MOST 1048576: true; the input reads as it did. -/
def fnReplacedUptoRow : OpenClaim := { program := "ytfafjngknkbngaa", sum := "1ed176ae036185361d7de265f1ca4b2b2301f493819d9922357130e1fa06dfe8", func := "loop.example/g00468/laws.FnReplaced", spec := "fnReplaced", inPlace := ["internal/bytealg.abigen_runtime_cmpstring"], unfollowed := true, recurses := true, apart := false, narrowed := true }
def FnReplacedUptoSaid : Prop := fnReplacedUptoRow.holds Try.pinned (OpenSpec.upto fnReplacedSpec)

/-- 'laws.FnUnique', WHERE WHAT IT READS IS OF BULK AT MOST 1048576: true; the input reads as it did. -/
def fnUniqueUptoRow : OpenClaim := { program := "ytfafjngknkbngaa", sum := "1ed176ae036185361d7de265f1ca4b2b2301f493819d9922357130e1fa06dfe8", func := "loop.example/g00468/laws.FnUnique", spec := "fnUnique", inPlace := ["internal/bytealg.abigen_runtime_cmpstring", "slices.overlaps[[]loop.example/g00468/impl.Value]"], unfollowed := true, recurses := true, apart := false, narrowed := true }
def FnUniqueUptoSaid : Prop := fnUniqueUptoRow.holds Try.pinned (OpenSpec.upto fnUniqueSpec)

/-- 'laws.FnExactLookup', WHERE WHAT IT READS IS OF BULK AT MOST 1048576: true; the input reads as it did. -/
def fnExactLookupUptoRow : OpenClaim := { program := "ytfafjngknkbngaa", sum := "1ed176ae036185361d7de265f1ca4b2b2301f493819d9922357130e1fa06dfe8", func := "loop.example/g00468/laws.FnExactLookup", spec := "fnExactLookup", inPlace := ["internal/bytealg.abigen_runtime_cmpstring"], unfollowed := true, recurses := true, apart := false, narrowed := true }
def FnExactLookupUptoSaid : Prop := fnExactLookupUptoRow.holds Try.pinned (OpenSpec.upto fnExactLookupSpec)

/-- 'laws.FnExactRelNew', WHERE WHAT IT READS IS OF BULK AT MOST 1048576: true; the input reads as it did. -/
def fnExactRelNewUptoRow : OpenClaim := { program := "ytfafjngknkbngaa", sum := "1ed176ae036185361d7de265f1ca4b2b2301f493819d9922357130e1fa06dfe8", func := "loop.example/g00468/laws.FnExactRelNew", spec := "fnExactRelNew", inPlace := ["internal/bytealg.abigen_runtime_cmpstring"], unfollowed := true, recurses := true, apart := false, narrowed := true }
def FnExactRelNewUptoSaid : Prop := fnExactRelNewUptoRow.holds Try.pinned (OpenSpec.upto fnExactRelNewSpec)

/-- 'laws.FnInserted', WHERE WHAT IT READS IS OF BULK AT MOST 1048576: true; the input reads as it did. -/
def fnInsertedUptoRow : OpenClaim := { program := "ytfafjngknkbngaa", sum := "1ed176ae036185361d7de265f1ca4b2b2301f493819d9922357130e1fa06dfe8", func := "loop.example/g00468/laws.FnInserted", spec := "fnInserted", inPlace := ["internal/bytealg.abigen_runtime_cmpstring", "slices.overlaps[[]loop.example/g00468/impl.Value]"], unfollowed := true, recurses := true, apart := false, narrowed := true }
def FnInsertedUptoSaid : Prop := fnInsertedUptoRow.holds Try.pinned (OpenSpec.upto fnInsertedSpec)

/-- 'laws.FnWaysOrder', WHERE WHAT IT READS IS OF BULK AT MOST 1048576: true; the input reads as it did. -/
def fnWaysOrderUptoRow : OpenClaim := { program := "ytfafjngknkbngaa", sum := "1ed176ae036185361d7de265f1ca4b2b2301f493819d9922357130e1fa06dfe8", func := "loop.example/g00468/laws.FnWaysOrder", spec := "fnWaysOrder", inPlace := ["internal/bytealg.abigen_runtime_cmpstring", "slices.overlaps[loop.example/g00468/impl.Way]"], unfollowed := true, recurses := true, apart := false, narrowed := true }
def FnWaysOrderUptoSaid : Prop := fnWaysOrderUptoRow.holds Try.pinned (OpenSpec.upto fnWaysOrderSpec)

end Rows
end Go.Proofs.Ytfafjngknkbngaa
