/-
  No cell of these rows narrows 'for every input' (looked for: loops, veiled, ifaces, maps, wideKeys, modest, calm, conditions, laid).
  DERIVED. THE GIVEN ROWS OF THIS SEAT. 13 by the template 'for every input the law returns true; each argument reads behind the call as it read before'; 0 by the template 'total and deterministic' (their statements: YtjjcilkcffigeaaTotals.lean).
  GIVEN WITH THE SEED: the statements are not yours to turn. If you find one false, say at which input.
  Laid BY PROGRAM, IN A SANDBOX (cutbox-rows.mjs): the forced cells as the released guide's own fill.sh prints them over the translation 25493f4d0619a9c7… (all of the seat's roots in one cut). By AI agents, Wed Nov 11 2026. No macro, syntax, notation, axiom, sorry.
-/
import Derived.Test.YtjjcilkcffigeaaChecked
import GoSem.Claim
import GoSem.ClaimJoined
import GoSem.ClaimMapViews
import Derived.JoinedTies
import Derived.KernelRfl
namespace Go.Proofs.Ytjjcilkcffigeaa
/- THE CELL 'sum', in the pinned program and in every row, IS THE sha256 OF THE DUMP (.gsa) THAT YtjjcilkcffigeaaProg.lean LOADS. Nothing in Lean hashes anything: it is a label: what it is worth is what the hold of that sum in a sandbox is worth. -/
noncomputable def Try.pinned : Pinned := { name := "ytjjcilkcffigeaa", sum := "25493f4d0619a9c75db01f4687f1449747878cd1aaf672882328a053648f69b8", checked := Try.checked }
namespace Rows
def none {H : Type} : Left H := { results := [], args := [] }

/-- 'laws.FnExactWayLess': WHATEVER THE INPUT: true; the input reads as it did. -/
def fnExactWayLessSpec : ChangeSpec := { name := "fnExactWayLess", fn := fun _ => fun
  | [d1, d2] => { results := [.lit (.bool true)], args := [d1, d2] }
  | _ => none }
def fnExactWayLessRow : OpenClaim := { program := "ytjjcilkcffigeaa", sum := "25493f4d0619a9c75db01f4687f1449747878cd1aaf672882328a053648f69b8", func := "loop.example/g00468/laws.FnExactWayLess", spec := "fnExactWayLess", apart := false }
def FnExactWayLessSaid : Prop := fnExactWayLessRow.holds Try.pinned (OpenSpec.ofChange fnExactWayLessSpec)

/-- ITS FALSE NEIGHBOUR: 'it returns false'. Refute it at one input. -/
def fnExactWayLessWrong : ChangeSpec := { name := "fnExactWayLess", fn := fun _ => fun
  | [d1, d2] => { results := [.lit (.bool false)], args := [d1, d2] }
  | _ => none }
def FnExactWayLessWrongFalsely : Prop := fnExactWayLessRow.holds Try.pinned (OpenSpec.ofChange fnExactWayLessWrong)

/-- 'laws.FnExactHeightOf': WHATEVER THE INPUT: true; the input reads as it did. -/
def fnExactHeightOfSpec : ChangeSpec := { name := "fnExactHeightOf", fn := fun _ => fun
  | [d] => { results := [.lit (.bool true)], args := [d] }
  | _ => none }
def fnExactHeightOfRow : OpenClaim := { program := "ytjjcilkcffigeaa", sum := "25493f4d0619a9c75db01f4687f1449747878cd1aaf672882328a053648f69b8", func := "loop.example/g00468/laws.FnExactHeightOf", spec := "fnExactHeightOf", apart := false }
def FnExactHeightOfSaid : Prop := fnExactHeightOfRow.holds Try.pinned (OpenSpec.ofChange fnExactHeightOfSpec)

/-- ITS FALSE NEIGHBOUR: 'it returns false'. Refute it at one input. -/
def fnExactHeightOfWrong : ChangeSpec := { name := "fnExactHeightOf", fn := fun _ => fun
  | [d] => { results := [.lit (.bool false)], args := [d] }
  | _ => none }
def FnExactHeightOfWrongFalsely : Prop := fnExactHeightOfRow.holds Try.pinned (OpenSpec.ofChange fnExactHeightOfWrong)

/-- 'laws.FnExactSkipNew': WHATEVER THE INPUT: true; the input reads as it did. -/
def fnExactSkipNewSpec : ChangeSpec := { name := "fnExactSkipNew", fn := fun _ => fun
  | [] => { results := [.lit (.bool true)], args := [] }
  | _ => none }
def fnExactSkipNewRow : OpenClaim := { program := "ytjjcilkcffigeaa", sum := "25493f4d0619a9c75db01f4687f1449747878cd1aaf672882328a053648f69b8", func := "loop.example/g00468/laws.FnExactSkipNew", spec := "fnExactSkipNew", apart := false }
def FnExactSkipNewSaid : Prop := fnExactSkipNewRow.holds Try.pinned (OpenSpec.ofChange fnExactSkipNewSpec)

/-- ITS FALSE NEIGHBOUR: 'it returns false'. Refute it at one input. -/
def fnExactSkipNewWrong : ChangeSpec := { name := "fnExactSkipNew", fn := fun _ => fun
  | [] => { results := [.lit (.bool false)], args := [] }
  | _ => none }
def FnExactSkipNewWrongFalsely : Prop := fnExactSkipNewRow.holds Try.pinned (OpenSpec.ofChange fnExactSkipNewWrong)

/-- 'laws.FnExactWayDel': WHATEVER THE INPUT: true; the input reads as it did. -/
def fnExactWayDelSpec : ChangeSpec := { name := "fnExactWayDel", fn := fun _ => fun
  | [d1, d2] => { results := [.lit (.bool true)], args := [d1, d2] }
  | _ => none }
def fnExactWayDelRow : OpenClaim := { program := "ytjjcilkcffigeaa", sum := "25493f4d0619a9c75db01f4687f1449747878cd1aaf672882328a053648f69b8", func := "loop.example/g00468/laws.FnExactWayDel", spec := "fnExactWayDel", unfollowed := true, recurses := true, apart := false }
def FnExactWayDelSaid : Prop := fnExactWayDelRow.holds Try.pinned (OpenSpec.ofChange fnExactWayDelSpec)

/-- ITS FALSE NEIGHBOUR: 'it returns false'. Refute it at one input. -/
def fnExactWayDelWrong : ChangeSpec := { name := "fnExactWayDel", fn := fun _ => fun
  | [d1, d2] => { results := [.lit (.bool false)], args := [d1, d2] }
  | _ => none }
def FnExactWayDelWrongFalsely : Prop := fnExactWayDelRow.holds Try.pinned (OpenSpec.ofChange fnExactWayDelWrong)

/-- 'laws.FnHeights': WHATEVER THE INPUT: true; the input reads as it did. -/
def fnHeightsSpec : ChangeSpec := { name := "fnHeights", fn := fun _ => fun
  | [d] => { results := [.lit (.bool true)], args := [d] }
  | _ => none }
def fnHeightsRow : OpenClaim := { program := "ytjjcilkcffigeaa", sum := "25493f4d0619a9c75db01f4687f1449747878cd1aaf672882328a053648f69b8", func := "loop.example/g00468/laws.FnHeights", spec := "fnHeights", apart := false }
def FnHeightsSaid : Prop := fnHeightsRow.holds Try.pinned (OpenSpec.ofChange fnHeightsSpec)

/-- ITS FALSE NEIGHBOUR: 'it returns false'. Refute it at one input. -/
def fnHeightsWrong : ChangeSpec := { name := "fnHeights", fn := fun _ => fun
  | [d] => { results := [.lit (.bool false)], args := [d] }
  | _ => none }
def FnHeightsWrongFalsely : Prop := fnHeightsRow.holds Try.pinned (OpenSpec.ofChange fnHeightsWrong)

/-- 'laws.FnExactSkipOk': WHATEVER THE INPUT: true; the input reads as it did. -/
def fnExactSkipOkSpec : ChangeSpec := { name := "fnExactSkipOk", fn := fun _ => fun
  | [d] => { results := [.lit (.bool true)], args := [d] }
  | _ => none }
def fnExactSkipOkRow : OpenClaim := { program := "ytjjcilkcffigeaa", sum := "25493f4d0619a9c75db01f4687f1449747878cd1aaf672882328a053648f69b8", func := "loop.example/g00468/laws.FnExactSkipOk", spec := "fnExactSkipOk", apart := false }
def FnExactSkipOkSaid : Prop := fnExactSkipOkRow.holds Try.pinned (OpenSpec.ofChange fnExactSkipOkSpec)

/-- ITS FALSE NEIGHBOUR: 'it returns false'. Refute it at one input. -/
def fnExactSkipOkWrong : ChangeSpec := { name := "fnExactSkipOk", fn := fun _ => fun
  | [d] => { results := [.lit (.bool false)], args := [d] }
  | _ => none }
def FnExactSkipOkWrongFalsely : Prop := fnExactSkipOkRow.holds Try.pinned (OpenSpec.ofChange fnExactSkipOkWrong)

/-- 'laws.FnExactWayPut': WHATEVER THE INPUT: true; the input reads as it did. -/
def fnExactWayPutSpec : ChangeSpec := { name := "fnExactWayPut", fn := fun _ => fun
  | [d1, d2] => { results := [.lit (.bool true)], args := [d1, d2] }
  | _ => none }
def fnExactWayPutRow : OpenClaim := { program := "ytjjcilkcffigeaa", sum := "25493f4d0619a9c75db01f4687f1449747878cd1aaf672882328a053648f69b8", func := "loop.example/g00468/laws.FnExactWayPut", spec := "fnExactWayPut", inPlace := ["slices.overlaps[loop.example/g00468/impl.Way]"], unfollowed := true, recurses := true, apart := false }
def FnExactWayPutSaid : Prop := fnExactWayPutRow.holds Try.pinned (OpenSpec.ofChange fnExactWayPutSpec)

/-- ITS FALSE NEIGHBOUR: 'it returns false'. Refute it at one input. -/
def fnExactWayPutWrong : ChangeSpec := { name := "fnExactWayPut", fn := fun _ => fun
  | [d1, d2] => { results := [.lit (.bool false)], args := [d1, d2] }
  | _ => none }
def FnExactWayPutWrongFalsely : Prop := fnExactWayPutRow.holds Try.pinned (OpenSpec.ofChange fnExactWayPutWrong)

/-- 'laws.FnSkipSorted': WHATEVER THE INPUT: true; the input reads as it did. -/
def fnSkipSortedSpec : ChangeSpec := { name := "fnSkipSorted", fn := fun _ => fun
  | [d] => { results := [.lit (.bool true)], args := [d] }
  | _ => none }
def fnSkipSortedRow : OpenClaim := { program := "ytjjcilkcffigeaa", sum := "25493f4d0619a9c75db01f4687f1449747878cd1aaf672882328a053648f69b8", func := "loop.example/g00468/laws.FnSkipSorted", spec := "fnSkipSorted", apart := false }
def FnSkipSortedSaid : Prop := fnSkipSortedRow.holds Try.pinned (OpenSpec.ofChange fnSkipSortedSpec)

/-- ITS FALSE NEIGHBOUR: 'it returns false'. Refute it at one input. -/
def fnSkipSortedWrong : ChangeSpec := { name := "fnSkipSorted", fn := fun _ => fun
  | [d] => { results := [.lit (.bool false)], args := [d] }
  | _ => none }
def FnSkipSortedWrongFalsely : Prop := fnSkipSortedRow.holds Try.pinned (OpenSpec.ofChange fnSkipSortedWrong)

/-- 'laws.FnExactSkipSeek': WHATEVER THE INPUT: true; the input reads as it did. -/
def fnExactSkipSeekSpec : ChangeSpec := { name := "fnExactSkipSeek", fn := fun _ => fun
  | [d1, d2] => { results := [.lit (.bool true)], args := [d1, d2] }
  | _ => none }
def fnExactSkipSeekRow : OpenClaim := { program := "ytjjcilkcffigeaa", sum := "25493f4d0619a9c75db01f4687f1449747878cd1aaf672882328a053648f69b8", func := "loop.example/g00468/laws.FnExactSkipSeek", spec := "fnExactSkipSeek", apart := false }
def FnExactSkipSeekSaid : Prop := fnExactSkipSeekRow.holds Try.pinned (OpenSpec.ofChange fnExactSkipSeekSpec)

/-- ITS FALSE NEIGHBOUR: 'it returns false'. Refute it at one input. -/
def fnExactSkipSeekWrong : ChangeSpec := { name := "fnExactSkipSeek", fn := fun _ => fun
  | [d1, d2] => { results := [.lit (.bool false)], args := [d1, d2] }
  | _ => none }
def FnExactSkipSeekWrongFalsely : Prop := fnExactSkipSeekRow.holds Try.pinned (OpenSpec.ofChange fnExactSkipSeekWrong)

/-- 'laws.FnExactSkipAll': WHATEVER THE INPUT: true; the input reads as it did. -/
def fnExactSkipAllSpec : ChangeSpec := { name := "fnExactSkipAll", fn := fun _ => fun
  | [d] => { results := [.lit (.bool true)], args := [d] }
  | _ => none }
def fnExactSkipAllRow : OpenClaim := { program := "ytjjcilkcffigeaa", sum := "25493f4d0619a9c75db01f4687f1449747878cd1aaf672882328a053648f69b8", func := "loop.example/g00468/laws.FnExactSkipAll", spec := "fnExactSkipAll", apart := false }
def FnExactSkipAllSaid : Prop := fnExactSkipAllRow.holds Try.pinned (OpenSpec.ofChange fnExactSkipAllSpec)

/-- ITS FALSE NEIGHBOUR: 'it returns false'. Refute it at one input. -/
def fnExactSkipAllWrong : ChangeSpec := { name := "fnExactSkipAll", fn := fun _ => fun
  | [d] => { results := [.lit (.bool false)], args := [d] }
  | _ => none }
def FnExactSkipAllWrongFalsely : Prop := fnExactSkipAllRow.holds Try.pinned (OpenSpec.ofChange fnExactSkipAllWrong)

/-- 'laws.FnSkipSeeks': WHATEVER THE INPUT: true; the input reads as it did. -/
def fnSkipSeeksSpec : ChangeSpec := { name := "fnSkipSeeks", fn := fun _ => fun
  | [d] => { results := [.lit (.bool true)], args := [d] }
  | _ => none }
def fnSkipSeeksRow : OpenClaim := { program := "ytjjcilkcffigeaa", sum := "25493f4d0619a9c75db01f4687f1449747878cd1aaf672882328a053648f69b8", func := "loop.example/g00468/laws.FnSkipSeeks", spec := "fnSkipSeeks", apart := false }
def FnSkipSeeksSaid : Prop := fnSkipSeeksRow.holds Try.pinned (OpenSpec.ofChange fnSkipSeeksSpec)

/-- ITS FALSE NEIGHBOUR: 'it returns false'. Refute it at one input. -/
def fnSkipSeeksWrong : ChangeSpec := { name := "fnSkipSeeks", fn := fun _ => fun
  | [d] => { results := [.lit (.bool false)], args := [d] }
  | _ => none }
def FnSkipSeeksWrongFalsely : Prop := fnSkipSeeksRow.holds Try.pinned (OpenSpec.ofChange fnSkipSeeksWrong)

/-- 'laws.FnSkips': WHATEVER THE INPUT: true; the input reads as it did. -/
def fnSkipsSpec : ChangeSpec := { name := "fnSkips", fn := fun _ => fun
  | [d] => { results := [.lit (.bool true)], args := [d] }
  | _ => none }
def fnSkipsRow : OpenClaim := { program := "ytjjcilkcffigeaa", sum := "25493f4d0619a9c75db01f4687f1449747878cd1aaf672882328a053648f69b8", func := "loop.example/g00468/laws.FnSkips", spec := "fnSkips", apart := false }
def FnSkipsSaid : Prop := fnSkipsRow.holds Try.pinned (OpenSpec.ofChange fnSkipsSpec)

/-- ITS FALSE NEIGHBOUR: 'it returns false'. Refute it at one input. -/
def fnSkipsWrong : ChangeSpec := { name := "fnSkips", fn := fun _ => fun
  | [d] => { results := [.lit (.bool false)], args := [d] }
  | _ => none }
def FnSkipsWrongFalsely : Prop := fnSkipsRow.holds Try.pinned (OpenSpec.ofChange fnSkipsWrong)

/-- 'laws.FnExactSkipPut': WHATEVER THE INPUT: true; the input reads as it did. -/
def fnExactSkipPutSpec : ChangeSpec := { name := "fnExactSkipPut", fn := fun _ => fun
  | [d1, d2] => { results := [.lit (.bool true)], args := [d1, d2] }
  | _ => none }
def fnExactSkipPutRow : OpenClaim := { program := "ytjjcilkcffigeaa", sum := "25493f4d0619a9c75db01f4687f1449747878cd1aaf672882328a053648f69b8", func := "loop.example/g00468/laws.FnExactSkipPut", spec := "fnExactSkipPut", apart := false }
def FnExactSkipPutSaid : Prop := fnExactSkipPutRow.holds Try.pinned (OpenSpec.ofChange fnExactSkipPutSpec)

/-- ITS FALSE NEIGHBOUR: 'it returns false'. Refute it at one input. -/
def fnExactSkipPutWrong : ChangeSpec := { name := "fnExactSkipPut", fn := fun _ => fun
  | [d1, d2] => { results := [.lit (.bool false)], args := [d1, d2] }
  | _ => none }
def FnExactSkipPutWrongFalsely : Prop := fnExactSkipPutRow.holds Try.pinned (OpenSpec.ofChange fnExactSkipPutWrong)

/- THE SECOND FORM. 'bulk': how many values and letters a reading holds, each counted each time it is reached (what is shared counts as often as it is met; a slice's spare places count too). A statement '..UptoSaid' is the law's where the arguments, and the package variables that the reading takes, are together of bulk at most 1048576: NARROWER than '..Said'. Prove '..Said' where nothing that the law and all that it calls make is longer than what came in: it says more and counts as full. Else prove '..UptoSaid'. A law counts once. -/
mutual
def uptoBulk {H : Type} : DataW H → Nat
  | .lit (.string bytes) => bytes.length + 1
  | .lit _ => 1
  | .nil => 1
  | .ptr d => uptoBulk d + 1
  | .slice elems spare => uptoBulkAll elems + uptoBulkAll spare + 1
  | .agg parts => uptoBulkAll parts + 1
  | .iface _ d => uptoBulk d + 1
  | .map entries => uptoBulkEntries entries + 1
  | .held _ => 1
def uptoBulkAll {H : Type} : List (DataW H) → Nat
  | [] => 0
  | d :: r => uptoBulk d + uptoBulkAll r
def uptoBulkEntries {H : Type} : List (Lit × DataW H) → Nat
  | [] => 0
  | x :: r => uptoBulkEntry x + uptoBulkEntries r
def uptoBulkEntry {H : Type} : Lit × DataW H → Nat
  | (.string bytes, d) => bytes.length + uptoBulk d + 1
  | (_, d) => uptoBulk d + 1
 end
def uptoSmall : (H : Type) → List (DataW H) → Bool := fun _ ds => decide (uptoBulkAll ds ≤ 1048576)
def OpenSpec.upto (s : _root_.Go.ChangeSpec) : _root_.Go.OpenSpec := { _root_.Go.OpenSpec.ofChange s with cond := some uptoSmall }

/-- 'laws.FnExactWayLess', WHERE WHAT IT READS IS OF BULK AT MOST 1048576: true; the input reads as it did. -/
def fnExactWayLessUptoRow : OpenClaim := { program := "ytjjcilkcffigeaa", sum := "25493f4d0619a9c75db01f4687f1449747878cd1aaf672882328a053648f69b8", func := "loop.example/g00468/laws.FnExactWayLess", spec := "fnExactWayLess", apart := false, narrowed := true }
def FnExactWayLessUptoSaid : Prop := fnExactWayLessUptoRow.holds Try.pinned (OpenSpec.upto fnExactWayLessSpec)

/-- 'laws.FnExactHeightOf', WHERE WHAT IT READS IS OF BULK AT MOST 1048576: true; the input reads as it did. -/
def fnExactHeightOfUptoRow : OpenClaim := { program := "ytjjcilkcffigeaa", sum := "25493f4d0619a9c75db01f4687f1449747878cd1aaf672882328a053648f69b8", func := "loop.example/g00468/laws.FnExactHeightOf", spec := "fnExactHeightOf", apart := false, narrowed := true }
def FnExactHeightOfUptoSaid : Prop := fnExactHeightOfUptoRow.holds Try.pinned (OpenSpec.upto fnExactHeightOfSpec)

/-- 'laws.FnExactSkipNew', WHERE WHAT IT READS IS OF BULK AT MOST 1048576: true; the input reads as it did. -/
def fnExactSkipNewUptoRow : OpenClaim := { program := "ytjjcilkcffigeaa", sum := "25493f4d0619a9c75db01f4687f1449747878cd1aaf672882328a053648f69b8", func := "loop.example/g00468/laws.FnExactSkipNew", spec := "fnExactSkipNew", apart := false, narrowed := true }
def FnExactSkipNewUptoSaid : Prop := fnExactSkipNewUptoRow.holds Try.pinned (OpenSpec.upto fnExactSkipNewSpec)

/-- 'laws.FnExactWayDel', WHERE WHAT IT READS IS OF BULK AT MOST 1048576: true; the input reads as it did. -/
def fnExactWayDelUptoRow : OpenClaim := { program := "ytjjcilkcffigeaa", sum := "25493f4d0619a9c75db01f4687f1449747878cd1aaf672882328a053648f69b8", func := "loop.example/g00468/laws.FnExactWayDel", spec := "fnExactWayDel", unfollowed := true, recurses := true, apart := false, narrowed := true }
def FnExactWayDelUptoSaid : Prop := fnExactWayDelUptoRow.holds Try.pinned (OpenSpec.upto fnExactWayDelSpec)

/-- 'laws.FnHeights', WHERE WHAT IT READS IS OF BULK AT MOST 1048576: true; the input reads as it did. -/
def fnHeightsUptoRow : OpenClaim := { program := "ytjjcilkcffigeaa", sum := "25493f4d0619a9c75db01f4687f1449747878cd1aaf672882328a053648f69b8", func := "loop.example/g00468/laws.FnHeights", spec := "fnHeights", apart := false, narrowed := true }
def FnHeightsUptoSaid : Prop := fnHeightsUptoRow.holds Try.pinned (OpenSpec.upto fnHeightsSpec)

/-- 'laws.FnExactSkipOk', WHERE WHAT IT READS IS OF BULK AT MOST 1048576: true; the input reads as it did. -/
def fnExactSkipOkUptoRow : OpenClaim := { program := "ytjjcilkcffigeaa", sum := "25493f4d0619a9c75db01f4687f1449747878cd1aaf672882328a053648f69b8", func := "loop.example/g00468/laws.FnExactSkipOk", spec := "fnExactSkipOk", apart := false, narrowed := true }
def FnExactSkipOkUptoSaid : Prop := fnExactSkipOkUptoRow.holds Try.pinned (OpenSpec.upto fnExactSkipOkSpec)

/-- 'laws.FnExactWayPut', WHERE WHAT IT READS IS OF BULK AT MOST 1048576: true; the input reads as it did. -/
def fnExactWayPutUptoRow : OpenClaim := { program := "ytjjcilkcffigeaa", sum := "25493f4d0619a9c75db01f4687f1449747878cd1aaf672882328a053648f69b8", func := "loop.example/g00468/laws.FnExactWayPut", spec := "fnExactWayPut", inPlace := ["slices.overlaps[loop.example/g00468/impl.Way]"], unfollowed := true, recurses := true, apart := false, narrowed := true }
def FnExactWayPutUptoSaid : Prop := fnExactWayPutUptoRow.holds Try.pinned (OpenSpec.upto fnExactWayPutSpec)

/-- 'laws.FnSkipSorted', WHERE WHAT IT READS IS OF BULK AT MOST 1048576: true; the input reads as it did. -/
def fnSkipSortedUptoRow : OpenClaim := { program := "ytjjcilkcffigeaa", sum := "25493f4d0619a9c75db01f4687f1449747878cd1aaf672882328a053648f69b8", func := "loop.example/g00468/laws.FnSkipSorted", spec := "fnSkipSorted", apart := false, narrowed := true }
def FnSkipSortedUptoSaid : Prop := fnSkipSortedUptoRow.holds Try.pinned (OpenSpec.upto fnSkipSortedSpec)

/-- 'laws.FnExactSkipSeek', WHERE WHAT IT READS IS OF BULK AT MOST 1048576: true; the input reads as it did. -/
def fnExactSkipSeekUptoRow : OpenClaim := { program := "ytjjcilkcffigeaa", sum := "25493f4d0619a9c75db01f4687f1449747878cd1aaf672882328a053648f69b8", func := "loop.example/g00468/laws.FnExactSkipSeek", spec := "fnExactSkipSeek", apart := false, narrowed := true }
def FnExactSkipSeekUptoSaid : Prop := fnExactSkipSeekUptoRow.holds Try.pinned (OpenSpec.upto fnExactSkipSeekSpec)

/-- 'laws.FnExactSkipAll', WHERE WHAT IT READS IS OF BULK AT MOST 1048576: true; the input reads as it did. -/
def fnExactSkipAllUptoRow : OpenClaim := { program := "ytjjcilkcffigeaa", sum := "25493f4d0619a9c75db01f4687f1449747878cd1aaf672882328a053648f69b8", func := "loop.example/g00468/laws.FnExactSkipAll", spec := "fnExactSkipAll", apart := false, narrowed := true }
def FnExactSkipAllUptoSaid : Prop := fnExactSkipAllUptoRow.holds Try.pinned (OpenSpec.upto fnExactSkipAllSpec)

/-- 'laws.FnSkipSeeks', WHERE WHAT IT READS IS OF BULK AT MOST 1048576: true; the input reads as it did. -/
def fnSkipSeeksUptoRow : OpenClaim := { program := "ytjjcilkcffigeaa", sum := "25493f4d0619a9c75db01f4687f1449747878cd1aaf672882328a053648f69b8", func := "loop.example/g00468/laws.FnSkipSeeks", spec := "fnSkipSeeks", apart := false, narrowed := true }
def FnSkipSeeksUptoSaid : Prop := fnSkipSeeksUptoRow.holds Try.pinned (OpenSpec.upto fnSkipSeeksSpec)

/-- 'laws.FnSkips', WHERE WHAT IT READS IS OF BULK AT MOST 1048576: true; the input reads as it did. -/
def fnSkipsUptoRow : OpenClaim := { program := "ytjjcilkcffigeaa", sum := "25493f4d0619a9c75db01f4687f1449747878cd1aaf672882328a053648f69b8", func := "loop.example/g00468/laws.FnSkips", spec := "fnSkips", apart := false, narrowed := true }
def FnSkipsUptoSaid : Prop := fnSkipsUptoRow.holds Try.pinned (OpenSpec.upto fnSkipsSpec)

/-- 'laws.FnExactSkipPut', WHERE WHAT IT READS IS OF BULK AT MOST 1048576: true; the input reads as it did. -/
def fnExactSkipPutUptoRow : OpenClaim := { program := "ytjjcilkcffigeaa", sum := "25493f4d0619a9c75db01f4687f1449747878cd1aaf672882328a053648f69b8", func := "loop.example/g00468/laws.FnExactSkipPut", spec := "fnExactSkipPut", apart := false, narrowed := true }
def FnExactSkipPutUptoSaid : Prop := fnExactSkipPutUptoRow.holds Try.pinned (OpenSpec.upto fnExactSkipPutSpec)

end Rows
end Go.Proofs.Ytjjcilkcffigeaa
