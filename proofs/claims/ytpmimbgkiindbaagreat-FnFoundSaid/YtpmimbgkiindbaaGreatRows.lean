/-
  No cell of these rows narrows 'for every input' (looked for: loops, veiled, ifaces, maps, wideKeys, modest, calm, conditions, laid).
  DERIVED. THE GIVEN ROWS OF THIS SEAT. 9 by the template 'for every input the law returns true; each argument reads behind the call as it read before'; 0 by the template 'total and deterministic' (their statements: YtpmimbgkiindbaaGreatTotals.lean).
  GIVEN WITH THE SEED: the statements are not yours to turn. If you find one false, say at which input.
  Laid BY PROGRAM, IN A SANDBOX (cutbox-rows.mjs): the forced cells as the released guide's own fill.sh prints them over the translation 282199a1fcaf032e… (all of the seat's roots in one cut). By AI agents, Wed Nov 11 2026. No macro, syntax, notation, axiom, sorry.
-/
import Derived.Test.YtpmimbgkiindbaaGreatChecked
import GoSem.Claim
import GoSem.ClaimJoined
import GoSem.ClaimMapViews
import Derived.JoinedTies
import Derived.KernelRfl
namespace Go.Proofs.YtpmimbgkiindbaaGreat
/- THE CELL 'sum', in the pinned program and in every row, IS THE sha256 OF THE DUMP (.gsa) THAT YtpmimbgkiindbaaGreatProg.lean LOADS. Nothing in Lean hashes anything: it is a label: what it is worth is what the hold of that sum in a sandbox is worth. -/
noncomputable def Tryz.pinned : Pinned := { name := "ytpmimbgkiindbaagreat", sum := "282199a1fcaf032e019ea1ff1d91fbda13877ff15135ecd46109896f38a25daa", checked := Tryz.checked }
namespace Rows
def none {H : Type} : Left H := { results := [], args := [] }

/-- 'laws.FnAlone': WHATEVER THE INPUT: true; the input reads as it did. -/
def fnAloneSpec : ChangeSpec := { name := "fnAlone", fn := fun _ => fun
  | [d] => { results := [.lit (.bool true)], args := [d] }
  | _ => none }
def fnAloneRow : OpenClaim := { program := "ytpmimbgkiindbaagreat", sum := "282199a1fcaf032e019ea1ff1d91fbda13877ff15135ecd46109896f38a25daa", func := "loop.example/g00468/laws.FnAlone", spec := "fnAlone", unfollowed := true, recurses := true, apart := false }
def FnAloneSaid : Prop := fnAloneRow.holds Tryz.pinned (OpenSpec.ofChange fnAloneSpec)

/-- ITS FALSE NEIGHBOUR: 'it returns false'. Refute it at one input. -/
def fnAloneWrong : ChangeSpec := { name := "fnAlone", fn := fun _ => fun
  | [d] => { results := [.lit (.bool false)], args := [d] }
  | _ => none }
def FnAloneWrongFalsely : Prop := fnAloneRow.holds Tryz.pinned (OpenSpec.ofChange fnAloneWrong)

/-- 'laws.FnStopped': WHATEVER THE INPUT: true; the input reads as it did. -/
def fnStoppedSpec : ChangeSpec := { name := "fnStopped", fn := fun _ => fun
  | [d] => { results := [.lit (.bool true)], args := [d] }
  | _ => none }
def fnStoppedRow : OpenClaim := { program := "ytpmimbgkiindbaagreat", sum := "282199a1fcaf032e019ea1ff1d91fbda13877ff15135ecd46109896f38a25daa", func := "loop.example/g00468/laws.FnStopped", spec := "fnStopped", unfollowed := true, recurses := true, apart := false }
def FnStoppedSaid : Prop := fnStoppedRow.holds Tryz.pinned (OpenSpec.ofChange fnStoppedSpec)

/-- ITS FALSE NEIGHBOUR: 'it returns false'. Refute it at one input. -/
def fnStoppedWrong : ChangeSpec := { name := "fnStopped", fn := fun _ => fun
  | [d] => { results := [.lit (.bool false)], args := [d] }
  | _ => none }
def FnStoppedWrongFalsely : Prop := fnStoppedRow.holds Tryz.pinned (OpenSpec.ofChange fnStoppedWrong)

/-- 'laws.FnAllDone': WHATEVER THE INPUT: true; the input reads as it did. -/
def fnAllDoneSpec : ChangeSpec := { name := "fnAllDone", fn := fun _ => fun
  | [d] => { results := [.lit (.bool true)], args := [d] }
  | _ => none }
def fnAllDoneRow : OpenClaim := { program := "ytpmimbgkiindbaagreat", sum := "282199a1fcaf032e019ea1ff1d91fbda13877ff15135ecd46109896f38a25daa", func := "loop.example/g00468/laws.FnAllDone", spec := "fnAllDone", unfollowed := true, recurses := true, apart := false }
def FnAllDoneSaid : Prop := fnAllDoneRow.holds Tryz.pinned (OpenSpec.ofChange fnAllDoneSpec)

/-- ITS FALSE NEIGHBOUR: 'it returns false'. Refute it at one input. -/
def fnAllDoneWrong : ChangeSpec := { name := "fnAllDone", fn := fun _ => fun
  | [d] => { results := [.lit (.bool false)], args := [d] }
  | _ => none }
def FnAllDoneWrongFalsely : Prop := fnAllDoneRow.holds Tryz.pinned (OpenSpec.ofChange fnAllDoneWrong)

/-- 'laws.FnToldStays': WHATEVER THE INPUT: true; the input reads as it did. -/
def fnToldStaysSpec : ChangeSpec := { name := "fnToldStays", fn := fun _ => fun
  | [d] => { results := [.lit (.bool true)], args := [d] }
  | _ => none }
def fnToldStaysRow : OpenClaim := { program := "ytpmimbgkiindbaagreat", sum := "282199a1fcaf032e019ea1ff1d91fbda13877ff15135ecd46109896f38a25daa", func := "loop.example/g00468/laws.FnToldStays", spec := "fnToldStays", unfollowed := true, recurses := true, apart := false }
def FnToldStaysSaid : Prop := fnToldStaysRow.holds Tryz.pinned (OpenSpec.ofChange fnToldStaysSpec)

/-- ITS FALSE NEIGHBOUR: 'it returns false'. Refute it at one input. -/
def fnToldStaysWrong : ChangeSpec := { name := "fnToldStays", fn := fun _ => fun
  | [d] => { results := [.lit (.bool false)], args := [d] }
  | _ => none }
def FnToldStaysWrongFalsely : Prop := fnToldStaysRow.holds Tryz.pinned (OpenSpec.ofChange fnToldStaysWrong)

/-- 'laws.FnOrderIsTrue': WHATEVER THE INPUT: true; the input reads as it did. -/
def fnOrderIsTrueSpec : ChangeSpec := { name := "fnOrderIsTrue", fn := fun _ => fun
  | [d] => { results := [.lit (.bool true)], args := [d] }
  | _ => none }
def fnOrderIsTrueRow : OpenClaim := { program := "ytpmimbgkiindbaagreat", sum := "282199a1fcaf032e019ea1ff1d91fbda13877ff15135ecd46109896f38a25daa", func := "loop.example/g00468/laws.FnOrderIsTrue", spec := "fnOrderIsTrue", unfollowed := true, recurses := true, apart := false }
def FnOrderIsTrueSaid : Prop := fnOrderIsTrueRow.holds Tryz.pinned (OpenSpec.ofChange fnOrderIsTrueSpec)

/-- ITS FALSE NEIGHBOUR: 'it returns false'. Refute it at one input. -/
def fnOrderIsTrueWrong : ChangeSpec := { name := "fnOrderIsTrue", fn := fun _ => fun
  | [d] => { results := [.lit (.bool false)], args := [d] }
  | _ => none }
def FnOrderIsTrueWrongFalsely : Prop := fnOrderIsTrueRow.holds Tryz.pinned (OpenSpec.ofChange fnOrderIsTrueWrong)

/-- 'laws.FnOtherWay': WHATEVER THE INPUT: true; the input reads as it did. -/
def fnOtherWaySpec : ChangeSpec := { name := "fnOtherWay", fn := fun _ => fun
  | [d] => { results := [.lit (.bool true)], args := [d] }
  | _ => none }
def fnOtherWayRow : OpenClaim := { program := "ytpmimbgkiindbaagreat", sum := "282199a1fcaf032e019ea1ff1d91fbda13877ff15135ecd46109896f38a25daa", func := "loop.example/g00468/laws.FnOtherWay", spec := "fnOtherWay", unfollowed := true, recurses := true, apart := false }
def FnOtherWaySaid : Prop := fnOtherWayRow.holds Tryz.pinned (OpenSpec.ofChange fnOtherWaySpec)

/-- ITS FALSE NEIGHBOUR: 'it returns false'. Refute it at one input. -/
def fnOtherWayWrong : ChangeSpec := { name := "fnOtherWay", fn := fun _ => fun
  | [d] => { results := [.lit (.bool false)], args := [d] }
  | _ => none }
def FnOtherWayWrongFalsely : Prop := fnOtherWayRow.holds Tryz.pinned (OpenSpec.ofChange fnOtherWayWrong)

/-- 'laws.FnScans': WHATEVER THE INPUT: true; the input reads as it did. -/
def fnScansSpec : ChangeSpec := { name := "fnScans", fn := fun _ => fun
  | [d] => { results := [.lit (.bool true)], args := [d] }
  | _ => none }
def fnScansRow : OpenClaim := { program := "ytpmimbgkiindbaagreat", sum := "282199a1fcaf032e019ea1ff1d91fbda13877ff15135ecd46109896f38a25daa", func := "loop.example/g00468/laws.FnScans", spec := "fnScans", unfollowed := true, recurses := true, apart := false }
def FnScansSaid : Prop := fnScansRow.holds Tryz.pinned (OpenSpec.ofChange fnScansSpec)

/-- ITS FALSE NEIGHBOUR: 'it returns false'. Refute it at one input. -/
def fnScansWrong : ChangeSpec := { name := "fnScans", fn := fun _ => fun
  | [d] => { results := [.lit (.bool false)], args := [d] }
  | _ => none }
def FnScansWrongFalsely : Prop := fnScansRow.holds Tryz.pinned (OpenSpec.ofChange fnScansWrong)

/-- 'laws.FnOneMoment': WHATEVER THE INPUT: true; the input reads as it did. -/
def fnOneMomentSpec : ChangeSpec := { name := "fnOneMoment", fn := fun _ => fun
  | [d] => { results := [.lit (.bool true)], args := [d] }
  | _ => none }
def fnOneMomentRow : OpenClaim := { program := "ytpmimbgkiindbaagreat", sum := "282199a1fcaf032e019ea1ff1d91fbda13877ff15135ecd46109896f38a25daa", func := "loop.example/g00468/laws.FnOneMoment", spec := "fnOneMoment", unfollowed := true, recurses := true, apart := false }
def FnOneMomentSaid : Prop := fnOneMomentRow.holds Tryz.pinned (OpenSpec.ofChange fnOneMomentSpec)

/-- ITS FALSE NEIGHBOUR: 'it returns false'. Refute it at one input. -/
def fnOneMomentWrong : ChangeSpec := { name := "fnOneMoment", fn := fun _ => fun
  | [d] => { results := [.lit (.bool false)], args := [d] }
  | _ => none }
def FnOneMomentWrongFalsely : Prop := fnOneMomentRow.holds Tryz.pinned (OpenSpec.ofChange fnOneMomentWrong)

/-- 'laws.FnFound': WHATEVER THE INPUT: true; the input reads as it did. -/
def fnFoundSpec : ChangeSpec := { name := "fnFound", fn := fun _ => fun
  | [d] => { results := [.lit (.bool true)], args := [d] }
  | _ => none }
def fnFoundRow : OpenClaim := { program := "ytpmimbgkiindbaagreat", sum := "282199a1fcaf032e019ea1ff1d91fbda13877ff15135ecd46109896f38a25daa", func := "loop.example/g00468/laws.FnFound", spec := "fnFound", unfollowed := true, recurses := true, apart := false }
def FnFoundSaid : Prop := fnFoundRow.holds Tryz.pinned (OpenSpec.ofChange fnFoundSpec)

/-- ITS FALSE NEIGHBOUR: 'it returns false'. Refute it at one input. -/
def fnFoundWrong : ChangeSpec := { name := "fnFound", fn := fun _ => fun
  | [d] => { results := [.lit (.bool false)], args := [d] }
  | _ => none }
def FnFoundWrongFalsely : Prop := fnFoundRow.holds Tryz.pinned (OpenSpec.ofChange fnFoundWrong)

/- THE SECOND FORM. 'bulk': how many values and letters a reading holds, each counted each time it is reached (what is shared counts as often as it is met; a slice's spare places count too). A statement '..UptoSaid' is the law's where the arguments, and the package variables that the reading takes, are together of bulk at most 1048576: NARROWER than '..Said'. Prove '..Said' where nothing that the law and all that it calls make is longer than what came in: it says more and counts as full. Else prove '..UptoSaid'. A law counts once. -/
mutual
def uptoBulk {H : Type} : DataW H → Nat
  | .lit (.string bytes) => bytes.length + 1
  | .lit _ => 1
  | .nil => 1
  | .ptr d => uptoBulk d + 1
  | .slice elems spare => uptoBulkAll elems + uptoBulkAll spare + 1
  | .agg parts => uptoBulkAll parts + 1
  | .iface _ d => uptoBulk d + 1
  | .map entries => uptoBulkEntries entries + 1
  | .held _ => 1
def uptoBulkAll {H : Type} : List (DataW H) → Nat
  | [] => 0
  | d :: r => uptoBulk d + uptoBulkAll r
def uptoBulkEntries {H : Type} : List (Lit × DataW H) → Nat
  | [] => 0
  | x :: r => uptoBulkEntry x + uptoBulkEntries r
def uptoBulkEntry {H : Type} : Lit × DataW H → Nat
  | (.string bytes, d) => bytes.length + uptoBulk d + 1
  | (_, d) => uptoBulk d + 1
 end
def uptoSmall : (H : Type) → List (DataW H) → Bool := fun _ ds => decide (uptoBulkAll ds ≤ 1048576)
def OpenSpec.upto (s : _root_.Go.ChangeSpec) : _root_.Go.OpenSpec := { _root_.Go.OpenSpec.ofChange s with cond := some uptoSmall }

/-- 'laws.FnAlone', WHERE WHAT IT READS IS OF BULK AT MOST 1048576: true; the input reads as it did. -/
def fnAloneUptoRow : OpenClaim := { program := "ytpmimbgkiindbaagreat", sum := "282199a1fcaf032e019ea1ff1d91fbda13877ff15135ecd46109896f38a25daa", func := "loop.example/g00468/laws.FnAlone", spec := "fnAlone", unfollowed := true, recurses := true, apart := false, narrowed := true }
def FnAloneUptoSaid : Prop := fnAloneUptoRow.holds Tryz.pinned (OpenSpec.upto fnAloneSpec)

/-- 'laws.FnStopped', WHERE WHAT IT READS IS OF BULK AT MOST 1048576: true; the input reads as it did. -/
def fnStoppedUptoRow : OpenClaim := { program := "ytpmimbgkiindbaagreat", sum := "282199a1fcaf032e019ea1ff1d91fbda13877ff15135ecd46109896f38a25daa", func := "loop.example/g00468/laws.FnStopped", spec := "fnStopped", unfollowed := true, recurses := true, apart := false, narrowed := true }
def FnStoppedUptoSaid : Prop := fnStoppedUptoRow.holds Tryz.pinned (OpenSpec.upto fnStoppedSpec)

/-- 'laws.FnAllDone', WHERE WHAT IT READS IS OF BULK AT MOST 1048576: true; the input reads as it did. -/
def fnAllDoneUptoRow : OpenClaim := { program := "ytpmimbgkiindbaagreat", sum := "282199a1fcaf032e019ea1ff1d91fbda13877ff15135ecd46109896f38a25daa", func := "loop.example/g00468/laws.FnAllDone", spec := "fnAllDone", unfollowed := true, recurses := true, apart := false, narrowed := true }
def FnAllDoneUptoSaid : Prop := fnAllDoneUptoRow.holds Tryz.pinned (OpenSpec.upto fnAllDoneSpec)

/-- 'laws.FnToldStays', WHERE WHAT IT READS IS OF BULK AT MOST 1048576: true; the input reads as it did. -/
def fnToldStaysUptoRow : OpenClaim := { program := "ytpmimbgkiindbaagreat", sum := "282199a1fcaf032e019ea1ff1d91fbda13877ff15135ecd46109896f38a25daa", func := "loop.example/g00468/laws.FnToldStays", spec := "fnToldStays", unfollowed := true, recurses := true, apart := false, narrowed := true }
def FnToldStaysUptoSaid : Prop := fnToldStaysUptoRow.holds Tryz.pinned (OpenSpec.upto fnToldStaysSpec)

/-- 'laws.FnOrderIsTrue', WHERE WHAT IT READS IS OF BULK AT MOST 1048576: true; the input reads as it did. -/
def fnOrderIsTrueUptoRow : OpenClaim := { program := "ytpmimbgkiindbaagreat", sum := "282199a1fcaf032e019ea1ff1d91fbda13877ff15135ecd46109896f38a25daa", func := "loop.example/g00468/laws.FnOrderIsTrue", spec := "fnOrderIsTrue", unfollowed := true, recurses := true, apart := false, narrowed := true }
def FnOrderIsTrueUptoSaid : Prop := fnOrderIsTrueUptoRow.holds Tryz.pinned (OpenSpec.upto fnOrderIsTrueSpec)

/-- 'laws.FnOtherWay', WHERE WHAT IT READS IS OF BULK AT MOST 1048576: true; the input reads as it did. -/
def fnOtherWayUptoRow : OpenClaim := { program := "ytpmimbgkiindbaagreat", sum := "282199a1fcaf032e019ea1ff1d91fbda13877ff15135ecd46109896f38a25daa", func := "loop.example/g00468/laws.FnOtherWay", spec := "fnOtherWay", unfollowed := true, recurses := true, apart := false, narrowed := true }
def FnOtherWayUptoSaid : Prop := fnOtherWayUptoRow.holds Tryz.pinned (OpenSpec.upto fnOtherWaySpec)

/-- 'laws.FnScans', WHERE WHAT IT READS IS OF BULK AT MOST 1048576: true; the input reads as it did. -/
def fnScansUptoRow : OpenClaim := { program := "ytpmimbgkiindbaagreat", sum := "282199a1fcaf032e019ea1ff1d91fbda13877ff15135ecd46109896f38a25daa", func := "loop.example/g00468/laws.FnScans", spec := "fnScans", unfollowed := true, recurses := true, apart := false, narrowed := true }
def FnScansUptoSaid : Prop := fnScansUptoRow.holds Tryz.pinned (OpenSpec.upto fnScansSpec)

/-- 'laws.FnOneMoment', WHERE WHAT IT READS IS OF BULK AT MOST 1048576: true; the input reads as it did. -/
def fnOneMomentUptoRow : OpenClaim := { program := "ytpmimbgkiindbaagreat", sum := "282199a1fcaf032e019ea1ff1d91fbda13877ff15135ecd46109896f38a25daa", func := "loop.example/g00468/laws.FnOneMoment", spec := "fnOneMoment", unfollowed := true, recurses := true, apart := false, narrowed := true }
def FnOneMomentUptoSaid : Prop := fnOneMomentUptoRow.holds Tryz.pinned (OpenSpec.upto fnOneMomentSpec)

/-- 'laws.FnFound', WHERE WHAT IT READS IS OF BULK AT MOST 1048576: true; the input reads as it did. -/
def fnFoundUptoRow : OpenClaim := { program := "ytpmimbgkiindbaagreat", sum := "282199a1fcaf032e019ea1ff1d91fbda13877ff15135ecd46109896f38a25daa", func := "loop.example/g00468/laws.FnFound", spec := "fnFound", unfollowed := true, recurses := true, apart := false, narrowed := true }
def FnFoundUptoSaid : Prop := fnFoundUptoRow.holds Tryz.pinned (OpenSpec.upto fnFoundSpec)

end Rows
end Go.Proofs.YtpmimbgkiindbaaGreat
