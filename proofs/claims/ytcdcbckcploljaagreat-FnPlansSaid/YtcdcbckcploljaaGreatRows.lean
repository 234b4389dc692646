/-
  No cell of these rows narrows 'for every input' (looked for: loops, veiled, ifaces, maps, wideKeys, modest, calm, conditions, laid).
  DERIVED. THE GIVEN ROWS OF THIS SEAT. 4 by the template 'for every input the law returns true; each argument reads behind the call as it read before'; 0 by the template 'total and deterministic' (their statements: YtcdcbckcploljaaGreatTotals.lean).
  GIVEN WITH THE SEED: the statements are not yours to turn. If you find one false, say at which input.
  Laid BY PROGRAM, IN A SANDBOX (cutbox-rows.mjs): the forced cells as the released guide's own fill.sh prints them over the translation 0c12da604322327a… (all of the seat's roots in one cut). By AI agents, Wed Nov 11 2026. No macro, syntax, notation, axiom, sorry.
-/
import Derived.Test.YtcdcbckcploljaaGreatChecked
import GoSem.Claim
import GoSem.ClaimJoined
import GoSem.ClaimMapViews
import Derived.JoinedTies
import Derived.KernelRfl
namespace Go.Proofs.YtcdcbckcploljaaGreat
/- THE CELL 'sum', in the pinned program and in every row, IS THE sha256 OF THE DUMP (.gsa) THAT YtcdcbckcploljaaGreatProg.lean LOADS. Nothing in Lean hashes anything: it is a label: what it is worth is what the hold of that sum in a sandbox is worth. -/
noncomputable def Tryz.pinned : Pinned := { name := "ytcdcbckcploljaagreat", sum := "0c12da604322327ab17f6c14f215246786aecaf7bd0a640b0e26405a41b40bd4", checked := Tryz.checked }
namespace Rows
def none {H : Type} : Left H := { results := [], args := [] }

/-- 'laws.FnKnows': WHATEVER THE INPUT: true; the input reads as it did. -/
def fnKnowsSpec : ChangeSpec := { name := "fnKnows", fn := fun _ => fun
  | [d] => { results := [.lit (.bool true)], args := [d] }
  | _ => none }
def fnKnowsRow : OpenClaim := { program := "ytcdcbckcploljaagreat", sum := "0c12da604322327ab17f6c14f215246786aecaf7bd0a640b0e26405a41b40bd4", func := "loop.example/g00468/laws.FnKnows", spec := "fnKnows", unfollowed := true, recurses := true, apart := false }
def FnKnowsSaid : Prop := fnKnowsRow.holds Tryz.pinned (OpenSpec.ofChange fnKnowsSpec)

/-- ITS FALSE NEIGHBOUR: 'it returns false'. Refute it at one input. -/
def fnKnowsWrong : ChangeSpec := { name := "fnKnows", fn := fun _ => fun
  | [d] => { results := [.lit (.bool false)], args := [d] }
  | _ => none }
def FnKnowsWrongFalsely : Prop := fnKnowsRow.holds Tryz.pinned (OpenSpec.ofChange fnKnowsWrong)

/-- 'laws.FnNeeds': WHATEVER THE INPUT: true; the input reads as it did. -/
def fnNeedsSpec : ChangeSpec := { name := "fnNeeds", fn := fun _ => fun
  | [d] => { results := [.lit (.bool true)], args := [d] }
  | _ => none }
def fnNeedsRow : OpenClaim := { program := "ytcdcbckcploljaagreat", sum := "0c12da604322327ab17f6c14f215246786aecaf7bd0a640b0e26405a41b40bd4", func := "loop.example/g00468/laws.FnNeeds", spec := "fnNeeds", unfollowed := true, recurses := true, apart := false }
def FnNeedsSaid : Prop := fnNeedsRow.holds Tryz.pinned (OpenSpec.ofChange fnNeedsSpec)

/-- ITS FALSE NEIGHBOUR: 'it returns false'. Refute it at one input. -/
def fnNeedsWrong : ChangeSpec := { name := "fnNeeds", fn := fun _ => fun
  | [d] => { results := [.lit (.bool false)], args := [d] }
  | _ => none }
def FnNeedsWrongFalsely : Prop := fnNeedsRow.holds Tryz.pinned (OpenSpec.ofChange fnNeedsWrong)

/-- 'laws.FnAlwaysSomething': WHATEVER THE INPUT: true; the input reads as it did. -/
def fnAlwaysSomethingSpec : ChangeSpec := { name := "fnAlwaysSomething", fn := fun _ => fun
  | [d] => { results := [.lit (.bool true)], args := [d] }
  | _ => none }
def fnAlwaysSomethingRow : OpenClaim := { program := "ytcdcbckcploljaagreat", sum := "0c12da604322327ab17f6c14f215246786aecaf7bd0a640b0e26405a41b40bd4", func := "loop.example/g00468/laws.FnAlwaysSomething", spec := "fnAlwaysSomething", unfollowed := true, recurses := true, apart := false }
def FnAlwaysSomethingSaid : Prop := fnAlwaysSomethingRow.holds Tryz.pinned (OpenSpec.ofChange fnAlwaysSomethingSpec)

/-- ITS FALSE NEIGHBOUR: 'it returns false'. Refute it at one input. -/
def fnAlwaysSomethingWrong : ChangeSpec := { name := "fnAlwaysSomething", fn := fun _ => fun
  | [d] => { results := [.lit (.bool false)], args := [d] }
  | _ => none }
def FnAlwaysSomethingWrongFalsely : Prop := fnAlwaysSomethingRow.holds Tryz.pinned (OpenSpec.ofChange fnAlwaysSomethingWrong)

/-- 'laws.FnPlans': WHATEVER THE INPUT: true; the input reads as it did. -/
def fnPlansSpec : ChangeSpec := { name := "fnPlans", fn := fun _ => fun
  | [d] => { results := [.lit (.bool true)], args := [d] }
  | _ => none }
def fnPlansRow : OpenClaim := { program := "ytcdcbckcploljaagreat", sum := "0c12da604322327ab17f6c14f215246786aecaf7bd0a640b0e26405a41b40bd4", func := "loop.example/g00468/laws.FnPlans", spec := "fnPlans", unfollowed := true, recurses := true, apart := false }
def FnPlansSaid : Prop := fnPlansRow.holds Tryz.pinned (OpenSpec.ofChange fnPlansSpec)

/-- ITS FALSE NEIGHBOUR: 'it returns false'. Refute it at one input. -/
def fnPlansWrong : ChangeSpec := { name := "fnPlans", fn := fun _ => fun
  | [d] => { results := [.lit (.bool false)], args := [d] }
  | _ => none }
def FnPlansWrongFalsely : Prop := fnPlansRow.holds Tryz.pinned (OpenSpec.ofChange fnPlansWrong)

/- THE SECOND FORM. 'bulk': how many values and letters a reading holds, each counted each time it is reached (what is shared counts as often as it is met; a slice's spare places count too). A statement '..UptoSaid' is the law's where the arguments, and the package variables that the reading takes, are together of bulk at most 1048576: NARROWER than '..Said'. Prove '..Said' where nothing that the law and all that it calls make is longer than what came in: it says more and counts as full. Else prove '..UptoSaid'. A law counts once. -/
mutual
def uptoBulk {H : Type} : DataW H → Nat
  | .lit (.string bytes) => bytes.length + 1
  | .lit _ => 1
  | .nil => 1
  | .ptr d => uptoBulk d + 1
  | .slice elems spare => uptoBulkAll elems + uptoBulkAll spare + 1
  | .agg parts => uptoBulkAll parts + 1
  | .iface _ d => uptoBulk d + 1
  | .map entries => uptoBulkEntries entries + 1
  | .held _ => 1
def uptoBulkAll {H : Type} : List (DataW H) → Nat
  | [] => 0
  | d :: r => uptoBulk d + uptoBulkAll r
def uptoBulkEntries {H : Type} : List (Lit × DataW H) → Nat
  | [] => 0
  | x :: r => uptoBulkEntry x + uptoBulkEntries r
def uptoBulkEntry {H : Type} : Lit × DataW H → Nat
  | (.string bytes, d) => bytes.length + uptoBulk d + 1
  | (_, d) => uptoBulk d + 1
 end
def uptoSmall : (H : Type) → List (DataW H) → Bool := fun _ ds => decide (uptoBulkAll ds ≤ 1048576)
def OpenSpec.upto (s : _root_.Go.ChangeSpec) : _root_.Go.OpenSpec := { _root_.Go.OpenSpec.ofChange s with cond := some uptoSmall }

/-- 'laws.FnKnows', WHERE WHAT IT READS IS OF BULK AT MOST 1048576: true; the input reads as it did. -/
def fnKnowsUptoRow : OpenClaim := { program := "ytcdcbckcploljaagreat", sum := "0c12da604322327ab17f6c14f215246786aecaf7bd0a640b0e26405a41b40bd4", func := "loop.example/g00468/laws.FnKnows", spec := "fnKnows", unfollowed := true, recurses := true, apart := false, narrowed := true }
def FnKnowsUptoSaid : Prop := fnKnowsUptoRow.holds Tryz.pinned (OpenSpec.upto fnKnowsSpec)

/-- 'laws.FnNeeds', WHERE WHAT IT READS IS OF BULK AT MOST 1048576: true; the input reads as it did. -/
def fnNeedsUptoRow : OpenClaim := { program := "ytcdcbckcploljaagreat", sum := "0c12da604322327ab17f6c14f215246786aecaf7bd0a640b0e26405a41b40bd4", func := "loop.example/g00468/laws.FnNeeds", spec := "fnNeeds", unfollowed := true, recurses := true, apart := false, narrowed := true }
def FnNeedsUptoSaid : Prop := fnNeedsUptoRow.holds Tryz.pinned (OpenSpec.upto fnNeedsSpec)

/-- 'laws.FnAlwaysSomething', WHERE WHAT IT READS IS OF BULK AT MOST 1048576: true; the input reads as it did. -/
def fnAlwaysSomethingUptoRow : OpenClaim := { program := "ytcdcbckcploljaagreat", sum := "0c12da604322327ab17f6c14f215246786aecaf7bd0a640b0e26405a41b40bd4", func := "loop.example/g00468/laws.FnAlwaysSomething", spec := "fnAlwaysSomething", unfollowed := true, recurses := true, apart := false, narrowed := true }
def FnAlwaysSomethingUptoSaid : Prop := fnAlwaysSomethingUptoRow.holds Tryz.pinned (OpenSpec.upto fnAlwaysSomethingSpec)

/-- 'laws.FnPlans', WHERE WHAT IT READS IS OF BULK AT MOST 1048576: true; the input reads as it did. -/
def fnPlansUptoRow : OpenClaim := { program := "ytcdcbckcploljaagreat", sum := "0c12da604322327ab17f6c14f215246786aecaf7bd0a640b0e26405a41b40bd4", func := "loop.example/g00468/laws.FnPlans", spec := "fnPlans", unfollowed := true, recurses := true, apart := false, narrowed := true }
def FnPlansUptoSaid : Prop := fnPlansUptoRow.holds Tryz.pinned (OpenSpec.upto fnPlansSpec)

end Rows
end Go.Proofs.YtcdcbckcploljaaGreat
