/-
  No cell of these rows narrows 'for every input' (looked for: loops, veiled, ifaces, maps, wideKeys, modest, calm, conditions, laid).
  DERIVED. THE GIVEN ROWS OF THIS SEAT. 8 by the template 'for every input the law returns true; each argument reads behind the call as it read before'; 0 by the template 'total and deterministic' (their statements: YtfafjngknkbngaaGreatTotals.lean).
  GIVEN WITH THE SEED: the statements are not yours to turn. If you find one false, say at which input.
  Laid BY PROGRAM, IN A SANDBOX (cutbox-rows.mjs): the forced cells as the released guide's own fill.sh prints them over the translation 9f9b3f0333e099c3… (all of the seat's roots in one cut). By AI agents, Wed Nov 11 2026. No macro, syntax, notation, axiom, sorry.
-/
import Derived.Test.YtfafjngknkbngaaGreatChecked
import GoSem.Claim
import GoSem.ClaimJoined
import GoSem.ClaimMapViews
import Derived.JoinedTies
import Derived.KernelRfl
namespace Go.Proofs.YtfafjngknkbngaaGreat
/- THE CELL 'sum', in the pinned program and in every row, IS THE sha256 OF THE DUMP (.gsa) THAT YtfafjngknkbngaaGreatProg.lean LOADS. Nothing in Lean hashes anything: it is a label: what it is worth is what the hold of that sum in a sandbox is worth. -/
noncomputable def Tryz.pinned : Pinned := { name := "ytfafjngknkbngaagreat", sum := "9f9b3f0333e099c31552a0610d6d1dbfca4ee685414d9074e435b967cd3e75c5", checked := Tryz.checked }
namespace Rows
def none {H : Type} : Left H := { results := [], args := [] }

/-- 'laws.FnWaysAreSkips': WHATEVER THE INPUT: true; the input reads as it did. -/
def fnWaysAreSkipsSpec : ChangeSpec := { name := "fnWaysAreSkips", fn := fun _ => fun
  | [d] => { results := [.lit (.bool true)], args := [d] }
  | _ => none }
def fnWaysAreSkipsRow : OpenClaim := { program := "ytfafjngknkbngaagreat", sum := "9f9b3f0333e099c31552a0610d6d1dbfca4ee685414d9074e435b967cd3e75c5", func := "loop.example/g00468/laws.FnWaysAreSkips", spec := "fnWaysAreSkips", inPlace := ["internal/bytealg.abigen_runtime_cmpstring", "slices.overlaps[loop.example/g00468/impl.Way]"], unfollowed := true, recurses := true, apart := false }
def FnWaysAreSkipsSaid : Prop := fnWaysAreSkipsRow.holds Tryz.pinned (OpenSpec.ofChange fnWaysAreSkipsSpec)

/-- ITS FALSE NEIGHBOUR: 'it returns false'. Refute it at one input. -/
def fnWaysAreSkipsWrong : ChangeSpec := { name := "fnWaysAreSkips", fn := fun _ => fun
  | [d] => { results := [.lit (.bool false)], args := [d] }
  | _ => none }
def FnWaysAreSkipsWrongFalsely : Prop := fnWaysAreSkipsRow.holds Tryz.pinned (OpenSpec.ofChange fnWaysAreSkipsWrong)

/-- 'laws.FnWaysKept': WHATEVER THE INPUT: true; the input reads as it did. -/
def fnWaysKeptSpec : ChangeSpec := { name := "fnWaysKept", fn := fun _ => fun
  | [d] => { results := [.lit (.bool true)], args := [d] }
  | _ => none }
def fnWaysKeptRow : OpenClaim := { program := "ytfafjngknkbngaagreat", sum := "9f9b3f0333e099c31552a0610d6d1dbfca4ee685414d9074e435b967cd3e75c5", func := "loop.example/g00468/laws.FnWaysKept", spec := "fnWaysKept", inPlace := ["internal/bytealg.abigen_runtime_cmpstring", "slices.overlaps[loop.example/g00468/impl.Way]", "slices.overlaps[[]loop.example/g00468/impl.Value]"], unfollowed := true, recurses := true, apart := false }
def FnWaysKeptSaid : Prop := fnWaysKeptRow.holds Tryz.pinned (OpenSpec.ofChange fnWaysKeptSpec)

/-- ITS FALSE NEIGHBOUR: 'it returns false'. Refute it at one input. -/
def fnWaysKeptWrong : ChangeSpec := { name := "fnWaysKept", fn := fun _ => fun
  | [d] => { results := [.lit (.bool false)], args := [d] }
  | _ => none }
def FnWaysKeptWrongFalsely : Prop := fnWaysKeptRow.holds Tryz.pinned (OpenSpec.ofChange fnWaysKeptWrong)

/-- 'laws.FnRelations': WHATEVER THE INPUT: true; the input reads as it did. -/
def fnRelationsSpec : ChangeSpec := { name := "fnRelations", fn := fun _ => fun
  | [d] => { results := [.lit (.bool true)], args := [d] }
  | _ => none }
def fnRelationsRow : OpenClaim := { program := "ytfafjngknkbngaagreat", sum := "9f9b3f0333e099c31552a0610d6d1dbfca4ee685414d9074e435b967cd3e75c5", func := "loop.example/g00468/laws.FnRelations", spec := "fnRelations", inPlace := ["internal/bytealg.abigen_runtime_cmpstring", "slices.overlaps[[]loop.example/g00468/impl.Value]"], unfollowed := true, recurses := true, apart := false }
def FnRelationsSaid : Prop := fnRelationsRow.holds Tryz.pinned (OpenSpec.ofChange fnRelationsSpec)

/-- ITS FALSE NEIGHBOUR: 'it returns false'. Refute it at one input. -/
def fnRelationsWrong : ChangeSpec := { name := "fnRelations", fn := fun _ => fun
  | [d] => { results := [.lit (.bool false)], args := [d] }
  | _ => none }
def FnRelationsWrongFalsely : Prop := fnRelationsRow.holds Tryz.pinned (OpenSpec.ofChange fnRelationsWrong)

/-- 'laws.FnWays': WHATEVER THE INPUT: true; the input reads as it did. -/
def fnWaysSpec : ChangeSpec := { name := "fnWays", fn := fun _ => fun
  | [d] => { results := [.lit (.bool true)], args := [d] }
  | _ => none }
def fnWaysRow : OpenClaim := { program := "ytfafjngknkbngaagreat", sum := "9f9b3f0333e099c31552a0610d6d1dbfca4ee685414d9074e435b967cd3e75c5", func := "loop.example/g00468/laws.FnWays", spec := "fnWays", inPlace := ["slices.overlaps[loop.example/g00468/impl.Way]", "internal/bytealg.abigen_runtime_cmpstring"], unfollowed := true, recurses := true, apart := false }
def FnWaysSaid : Prop := fnWaysRow.holds Tryz.pinned (OpenSpec.ofChange fnWaysSpec)

/-- ITS FALSE NEIGHBOUR: 'it returns false'. Refute it at one input. -/
def fnWaysWrong : ChangeSpec := { name := "fnWays", fn := fun _ => fun
  | [d] => { results := [.lit (.bool false)], args := [d] }
  | _ => none }
def FnWaysWrongFalsely : Prop := fnWaysRow.holds Tryz.pinned (OpenSpec.ofChange fnWaysWrong)

/-- 'laws.FnExactRemove': WHATEVER THE INPUT: true; the input reads as it did. -/
def fnExactRemoveSpec : ChangeSpec := { name := "fnExactRemove", fn := fun _ => fun
  | [d1, d2] => { results := [.lit (.bool true)], args := [d1, d2] }
  | _ => none }
def fnExactRemoveRow : OpenClaim := { program := "ytfafjngknkbngaagreat", sum := "9f9b3f0333e099c31552a0610d6d1dbfca4ee685414d9074e435b967cd3e75c5", func := "loop.example/g00468/laws.FnExactRemove", spec := "fnExactRemove", inPlace := ["internal/bytealg.abigen_runtime_cmpstring"], unfollowed := true, recurses := true, apart := false }
def FnExactRemoveSaid : Prop := fnExactRemoveRow.holds Tryz.pinned (OpenSpec.ofChange fnExactRemoveSpec)

/-- ITS FALSE NEIGHBOUR: 'it returns false'. Refute it at one input. -/
def fnExactRemoveWrong : ChangeSpec := { name := "fnExactRemove", fn := fun _ => fun
  | [d1, d2] => { results := [.lit (.bool false)], args := [d1, d2] }
  | _ => none }
def FnExactRemoveWrongFalsely : Prop := fnExactRemoveRow.holds Tryz.pinned (OpenSpec.ofChange fnExactRemoveWrong)

/-- 'laws.FnExactReplace': WHATEVER THE INPUT: true; the input reads as it did. -/
def fnExactReplaceSpec : ChangeSpec := { name := "fnExactReplace", fn := fun _ => fun
  | [d1, d2] => { results := [.lit (.bool true)], args := [d1, d2] }
  | _ => none }
def fnExactReplaceRow : OpenClaim := { program := "ytfafjngknkbngaagreat", sum := "9f9b3f0333e099c31552a0610d6d1dbfca4ee685414d9074e435b967cd3e75c5", func := "loop.example/g00468/laws.FnExactReplace", spec := "fnExactReplace", inPlace := ["internal/bytealg.abigen_runtime_cmpstring"], unfollowed := true, recurses := true, apart := false }
def FnExactReplaceSaid : Prop := fnExactReplaceRow.holds Tryz.pinned (OpenSpec.ofChange fnExactReplaceSpec)

/-- ITS FALSE NEIGHBOUR: 'it returns false'. Refute it at one input. -/
def fnExactReplaceWrong : ChangeSpec := { name := "fnExactReplace", fn := fun _ => fun
  | [d1, d2] => { results := [.lit (.bool false)], args := [d1, d2] }
  | _ => none }
def FnExactReplaceWrongFalsely : Prop := fnExactReplaceRow.holds Tryz.pinned (OpenSpec.ofChange fnExactReplaceWrong)

/-- 'laws.FnExactWaysOf': WHATEVER THE INPUT: true; the input reads as it did. -/
def fnExactWaysOfSpec : ChangeSpec := { name := "fnExactWaysOf", fn := fun _ => fun
  | [d1, d2] => { results := [.lit (.bool true)], args := [d1, d2] }
  | _ => none }
def fnExactWaysOfRow : OpenClaim := { program := "ytfafjngknkbngaagreat", sum := "9f9b3f0333e099c31552a0610d6d1dbfca4ee685414d9074e435b967cd3e75c5", func := "loop.example/g00468/laws.FnExactWaysOf", spec := "fnExactWaysOf", inPlace := ["internal/bytealg.abigen_runtime_cmpstring", "slices.overlaps[loop.example/g00468/impl.Way]"], unfollowed := true, recurses := true, apart := false }
def FnExactWaysOfSaid : Prop := fnExactWaysOfRow.holds Tryz.pinned (OpenSpec.ofChange fnExactWaysOfSpec)

/-- ITS FALSE NEIGHBOUR: 'it returns false'. Refute it at one input. -/
def fnExactWaysOfWrong : ChangeSpec := { name := "fnExactWaysOf", fn := fun _ => fun
  | [d1, d2] => { results := [.lit (.bool false)], args := [d1, d2] }
  | _ => none }
def FnExactWaysOfWrongFalsely : Prop := fnExactWaysOfRow.holds Tryz.pinned (OpenSpec.ofChange fnExactWaysOfWrong)

/-- 'laws.FnExactInsert': WHATEVER THE INPUT: true; the input reads as it did. -/
def fnExactInsertSpec : ChangeSpec := { name := "fnExactInsert", fn := fun _ => fun
  | [d1, d2] => { results := [.lit (.bool true)], args := [d1, d2] }
  | _ => none }
def fnExactInsertRow : OpenClaim := { program := "ytfafjngknkbngaagreat", sum := "9f9b3f0333e099c31552a0610d6d1dbfca4ee685414d9074e435b967cd3e75c5", func := "loop.example/g00468/laws.FnExactInsert", spec := "fnExactInsert", inPlace := ["internal/bytealg.abigen_runtime_cmpstring", "slices.overlaps[[]loop.example/g00468/impl.Value]"], unfollowed := true, recurses := true, apart := false }
def FnExactInsertSaid : Prop := fnExactInsertRow.holds Tryz.pinned (OpenSpec.ofChange fnExactInsertSpec)

/-- ITS FALSE NEIGHBOUR: 'it returns false'. Refute it at one input. -/
def fnExactInsertWrong : ChangeSpec := { name := "fnExactInsert", fn := fun _ => fun
  | [d1, d2] => { results := [.lit (.bool false)], args := [d1, d2] }
  | _ => none }
def FnExactInsertWrongFalsely : Prop := fnExactInsertRow.holds Tryz.pinned (OpenSpec.ofChange fnExactInsertWrong)

/- THE SECOND FORM. 'bulk': how many values and letters a reading holds, each counted each time it is reached (what is shared counts as often as it is met; a slice's spare places count too). A statement '..UptoSaid' is the law's where the arguments, and the package variables that the reading takes, are together of bulk at most 1048576: NARROWER than '..Said'. Prove '..Said' where nothing that the law and all that it calls make is longer than what came in: it says more and counts as full. Else prove '..UptoSaid'. A law counts once. -/
mutual
def uptoBulk {H : Type} : DataW H → Nat
  | .lit (.string bytes) => bytes.length + 1
  | .lit _ => 1
  | .nil => 1
  | .ptr d => uptoBulk d + 1
  | .slice elems spare => uptoBulkAll elems + uptoBulkAll spare + 1
  | .agg parts => uptoBulkAll parts + 1
  | .iface _ d => uptoBulk d + 1
  | .map entries => uptoBulkEntries entries + 1
  | .held _ => 1
def uptoBulkAll {H : Type} : List (DataW H) → Nat
  | [] => 0
  | d :: r => uptoBulk d + uptoBulkAll r
def uptoBulkEntries {H : Type} : List (Lit × DataW H) → Nat
  | [] => 0
  | x :: r => uptoBulkEntry x + uptoBulkEntries r
def uptoBulkEntry {H : Type} : Lit × DataW H → Nat
  | (.string bytes, d) => bytes.length + uptoBulk d + 1
  | (_, d) => uptoBulk d + 1
 end
def uptoSmall : (H : Type) → List (DataW H) → Bool := fun _ ds => decide (uptoBulkAll ds ≤ 1048576)
def OpenSpec.upto (s : _root_.Go.ChangeSpec) : _root_.Go.OpenSpec := { _root_.Go.OpenSpec.ofChange s with cond := some uptoSmall }

/-- 'laws.FnWaysAreSkips', WHERE WHAT IT READS IS OF BULK AT MOST 1048576: true; the input reads as it did. -/
def fnWaysAreSkipsUptoRow : OpenClaim := { program := "ytfafjngknkbngaagreat", sum := "9f9b3f0333e099c31552a0610d6d1dbfca4ee685414d9074e435b967cd3e75c5", func := "loop.example/g00468/laws.FnWaysAreSkips", spec := "fnWaysAreSkips", inPlace := ["internal/bytealg.abigen_runtime_cmpstring", "slices.overlaps[loop.example/g00468/impl.Way]"], unfollowed := true, recurses := true, apart := false, narrowed := true }
def FnWaysAreSkipsUptoSaid : Prop := fnWaysAreSkipsUptoRow.holds Tryz.pinned (OpenSpec.upto fnWaysAreSkipsSpec)

/-- 'laws.FnWaysKept', WHERE WHAT IT READS IS OF BULK AT MOST 1048576: true; the input reads as it did. -/
def fnWaysKeptUptoRow : OpenClaim := { program := "ytfafjngknkbngaagreat", sum := "9f9b3f0333e099c31552a0610d6d1dbfca4ee685414d9074e435b967cd3e75c5", func := "loop.example/g00468/laws.FnWaysKept", spec := "fnWaysKept", inPlace := ["internal/bytealg.abigen_runtime_cmpstring", "slices.overlaps[loop.example/g00468/impl.Way]", "slices.overlaps[[]loop.example/g00468/impl.Value]"], unfollowed := true, recurses := true, apart := false, narrowed := true }
def FnWaysKeptUptoSaid : Prop := fnWaysKeptUptoRow.holds Tryz.pinned (OpenSpec.upto fnWaysKeptSpec)

/-- 'laws.FnRelations', WHERE WHAT IT READS IS OF BULK AT MOST 1048576: true; the input reads as it did. -/
def fnRelationsUptoRow : OpenClaim := { program := "ytfafjngknkbngaagreat", sum := "9f9b3f0333e099c31552a0610d6d1dbfca4ee685414d9074e435b967cd3e75c5", func := "loop.example/g00468/laws.FnRelations", spec := "fnRelations", inPlace := ["internal/bytealg.abigen_runtime_cmpstring", "slices.overlaps[[]loop.example/g00468/impl.Value]"], unfollowed := true, recurses := true, apart := false, narrowed := true }
def FnRelationsUptoSaid : Prop := fnRelationsUptoRow.holds Tryz.pinned (OpenSpec.upto fnRelationsSpec)

/-- 'laws.FnWays', WHERE WHAT IT READS IS OF BULK AT MOST 1048576: true; the input reads as it did. -/
def fnWaysUptoRow : OpenClaim := { program := "ytfafjngknkbngaagreat", sum := "9f9b3f0333e099c31552a0610d6d1dbfca4ee685414d9074e435b967cd3e75c5", func := "loop.example/g00468/laws.FnWays", spec := "fnWays", inPlace := ["slices.overlaps[loop.example/g00468/impl.Way]", "internal/bytealg.abigen_runtime_cmpstring"], unfollowed := true, recurses := true, apart := false, narrowed := true }
def FnWaysUptoSaid : Prop := fnWaysUptoRow.holds Tryz.pinned (OpenSpec.upto fnWaysSpec)

/-- 'laws.FnExactRemove', WHERE WHAT IT READS IS OF BULK AT MOST 1048576: true; the input reads as it did. -/
def fnExactRemoveUptoRow : OpenClaim := { program := "ytfafjngknkbngaagreat", sum := "9f9b3f0333e099c31552a0610d6d1dbfca4ee685414d9074e435b967cd3e75c5", func := "loop.example/g00468/laws.FnExactRemove", spec := "fnExactRemove", inPlace := ["internal/bytealg.abigen_runtime_cmpstring"], unfollowed := true, recurses := true, apart := false, narrowed := true }
def FnExactRemoveUptoSaid : Prop := fnExactRemoveUptoRow.holds Tryz.pinned (OpenSpec.upto fnExactRemoveSpec)

/-- 'laws.FnExactReplace', WHERE WHAT IT READS IS OF BULK AT MOST 1048576: true; the input reads as it did. -/
def fnExactReplaceUptoRow : OpenClaim := { program := "ytfafjngknkbngaagreat", sum := "9f9b3f0333e099c31552a0610d6d1dbfca4ee685414d9074e435b967cd3e75c5", func := "loop.example/g00468/laws.FnExactReplace", spec := "fnExactReplace", inPlace := ["internal/bytealg.abigen_runtime_cmpstring"], unfollowed := true, recurses := true, apart := false, narrowed := true }
def FnExactReplaceUptoSaid : Prop := fnExactReplaceUptoRow.holds Tryz.pinned (OpenSpec.upto fnExactReplaceSpec)

/-- 'laws.FnExactWaysOf', WHERE WHAT IT READS IS OF BULK AT MOST 1048576: true; the input reads as it did. -/
def fnExactWaysOfUptoRow : OpenClaim := { program := "ytfafjngknkbngaagreat", sum := "9f9b3f0333e099c31552a0610d6d1dbfca4ee685414d9074e435b967cd3e75c5", func := "loop.example/g00468/laws.FnExactWaysOf", spec := "fnExactWaysOf", inPlace := ["internal/bytealg.abigen_runtime_cmpstring", "slices.overlaps[loop.example/g00468/impl.Way]"], unfollowed := true, recurses := true, apart := false, narrowed := true }
def FnExactWaysOfUptoSaid : Prop := fnExactWaysOfUptoRow.holds Tryz.pinned (OpenSpec.upto fnExactWaysOfSpec)

/-- 'laws.FnExactInsert', WHERE WHAT IT READS IS OF BULK AT MOST 1048576: true; the input reads as it did. -/
def fnExactInsertUptoRow : OpenClaim := { program := "ytfafjngknkbngaagreat", sum := "9f9b3f0333e099c31552a0610d6d1dbfca4ee685414d9074e435b967cd3e75c5", func := "loop.example/g00468/laws.FnExactInsert", spec := "fnExactInsert", inPlace := ["internal/bytealg.abigen_runtime_cmpstring", "slices.overlaps[[]loop.example/g00468/impl.Value]"], unfollowed := true, recurses := true, apart := false, narrowed := true }
def FnExactInsertUptoSaid : Prop := fnExactInsertUptoRow.holds Tryz.pinned (OpenSpec.upto fnExactInsertSpec)

end Rows
end Go.Proofs.YtfafjngknkbngaaGreat
