/-
  No cell of these rows narrows 'for every input' (looked for: loops, veiled, ifaces, maps, wideKeys, modest, calm, conditions, laid).
  DERIVED. THE GIVEN ROWS OF THIS SEAT. 10 by the template 'for every input the law returns true; each argument reads behind the call as it read before'; 0 by the template 'total and deterministic' (their statements: YtffaepmojpanoaaTotals.lean).
  GIVEN WITH THE SEED: the statements are not yours to turn. If you find one false, say at which input.
  Laid BY PROGRAM, IN A SANDBOX (cutbox-rows.mjs): the forced cells as the released guide's own fill.sh prints them over the translation d7434da6a70752de… (all of the seat's roots in one cut). By AI agents, Wed Nov 11 2026. No macro, syntax, notation, axiom, sorry.
-/
import Derived.Test.YtffaepmojpanoaaChecked
import GoSem.Claim
import GoSem.ClaimJoined
import GoSem.ClaimMapViews
import Derived.JoinedTies
import Derived.KernelRfl
namespace Go.Proofs.Ytffaepmojpanoaa
/- THE CELL 'sum', in the pinned program and in every row, IS THE sha256 OF THE DUMP (.gsa) THAT YtffaepmojpanoaaProg.lean LOADS. Nothing in Lean hashes anything: it is a label: what it is worth is what the hold of that sum in a sandbox is worth. -/
noncomputable def Try.pinned : Pinned := { name := "ytffaepmojpanoaa", sum := "d7434da6a70752ded6c39c99c35274406ce27eaad86c4f8c769f74bd33748717", checked := Try.checked }
namespace Rows
def none {H : Type} : Left H := { results := [], args := [] }

/-- 'laws.FnExactSameParts': WHATEVER THE INPUT: true; the input reads as it did. -/
def fnExactSamePartsSpec : ChangeSpec := { name := "fnExactSameParts", fn := fun _ => fun
  | [d1, d2] => { results := [.lit (.bool true)], args := [d1, d2] }
  | _ => none }
def fnExactSamePartsRow : OpenClaim := { program := "ytffaepmojpanoaa", sum := "d7434da6a70752ded6c39c99c35274406ce27eaad86c4f8c769f74bd33748717", func := "loop.example/g01045/laws.FnExactSameParts", spec := "fnExactSameParts", apart := false }
def FnExactSamePartsSaid : Prop := fnExactSamePartsRow.holds Try.pinned (OpenSpec.ofChange fnExactSamePartsSpec)

/-- ITS FALSE NEIGHBOUR: 'it returns false'. Refute it at one input. -/
def fnExactSamePartsWrong : ChangeSpec := { name := "fnExactSameParts", fn := fun _ => fun
  | [d1, d2] => { results := [.lit (.bool false)], args := [d1, d2] }
  | _ => none }
def FnExactSamePartsWrongFalsely : Prop := fnExactSamePartsRow.holds Try.pinned (OpenSpec.ofChange fnExactSamePartsWrong)

/-- 'laws.FnExactValidParts': WHATEVER THE INPUT: true; the input reads as it did. -/
def fnExactValidPartsSpec : ChangeSpec := { name := "fnExactValidParts", fn := fun _ => fun
  | [d] => { results := [.lit (.bool true)], args := [d] }
  | _ => none }
def fnExactValidPartsRow : OpenClaim := { program := "ytffaepmojpanoaa", sum := "d7434da6a70752ded6c39c99c35274406ce27eaad86c4f8c769f74bd33748717", func := "loop.example/g01045/laws.FnExactValidParts", spec := "fnExactValidParts", apart := false }
def FnExactValidPartsSaid : Prop := fnExactValidPartsRow.holds Try.pinned (OpenSpec.ofChange fnExactValidPartsSpec)

/-- ITS FALSE NEIGHBOUR: 'it returns false'. Refute it at one input. -/
def fnExactValidPartsWrong : ChangeSpec := { name := "fnExactValidParts", fn := fun _ => fun
  | [d] => { results := [.lit (.bool false)], args := [d] }
  | _ => none }
def FnExactValidPartsWrongFalsely : Prop := fnExactValidPartsRow.holds Try.pinned (OpenSpec.ofChange fnExactValidPartsWrong)

/-- 'laws.FnExactReplacementOf': WHATEVER THE INPUT: true; the input reads as it did. -/
def fnExactReplacementOfSpec : ChangeSpec := { name := "fnExactReplacementOf", fn := fun _ => fun
  | [d1, d2, d3] => { results := [.lit (.bool true)], args := [d1, d2, d3] }
  | _ => none }
def fnExactReplacementOfRow : OpenClaim := { program := "ytffaepmojpanoaa", sum := "d7434da6a70752ded6c39c99c35274406ce27eaad86c4f8c769f74bd33748717", func := "loop.example/g01045/laws.FnExactReplacementOf", spec := "fnExactReplacementOf", apart := false }
def FnExactReplacementOfSaid : Prop := fnExactReplacementOfRow.holds Try.pinned (OpenSpec.ofChange fnExactReplacementOfSpec)

/-- ITS FALSE NEIGHBOUR: 'it returns false'. Refute it at one input. -/
def fnExactReplacementOfWrong : ChangeSpec := { name := "fnExactReplacementOf", fn := fun _ => fun
  | [d1, d2, d3] => { results := [.lit (.bool false)], args := [d1, d2, d3] }
  | _ => none }
def FnExactReplacementOfWrongFalsely : Prop := fnExactReplacementOfRow.holds Try.pinned (OpenSpec.ofChange fnExactReplacementOfWrong)

/-- 'laws.FnExactOrderList': WHATEVER THE INPUT: true; the input reads as it did. -/
def fnExactOrderListSpec : ChangeSpec := { name := "fnExactOrderList", fn := fun _ => fun
  | [d] => { results := [.lit (.bool true)], args := [d] }
  | _ => none }
def fnExactOrderListRow : OpenClaim := { program := "ytffaepmojpanoaa", sum := "d7434da6a70752ded6c39c99c35274406ce27eaad86c4f8c769f74bd33748717", func := "loop.example/g01045/laws.FnExactOrderList", spec := "fnExactOrderList", apart := false }
def FnExactOrderListSaid : Prop := fnExactOrderListRow.holds Try.pinned (OpenSpec.ofChange fnExactOrderListSpec)

/-- ITS FALSE NEIGHBOUR: 'it returns false'. Refute it at one input. -/
def fnExactOrderListWrong : ChangeSpec := { name := "fnExactOrderList", fn := fun _ => fun
  | [d] => { results := [.lit (.bool false)], args := [d] }
  | _ => none }
def FnExactOrderListWrongFalsely : Prop := fnExactOrderListRow.holds Try.pinned (OpenSpec.ofChange fnExactOrderListWrong)

/-- 'laws.FnExactDeadParts': WHATEVER THE INPUT: true; the input reads as it did. -/
def fnExactDeadPartsSpec : ChangeSpec := { name := "fnExactDeadParts", fn := fun _ => fun
  | [d] => { results := [.lit (.bool true)], args := [d] }
  | _ => none }
def fnExactDeadPartsRow : OpenClaim := { program := "ytffaepmojpanoaa", sum := "d7434da6a70752ded6c39c99c35274406ce27eaad86c4f8c769f74bd33748717", func := "loop.example/g01045/laws.FnExactDeadParts", spec := "fnExactDeadParts", apart := false }
def FnExactDeadPartsSaid : Prop := fnExactDeadPartsRow.holds Try.pinned (OpenSpec.ofChange fnExactDeadPartsSpec)

/-- ITS FALSE NEIGHBOUR: 'it returns false'. Refute it at one input. -/
def fnExactDeadPartsWrong : ChangeSpec := { name := "fnExactDeadParts", fn := fun _ => fun
  | [d] => { results := [.lit (.bool false)], args := [d] }
  | _ => none }
def FnExactDeadPartsWrongFalsely : Prop := fnExactDeadPartsRow.holds Try.pinned (OpenSpec.ofChange fnExactDeadPartsWrong)

/-- 'laws.FnExactMachinesFrom': WHATEVER THE INPUT: true; the input reads as it did. -/
def fnExactMachinesFromSpec : ChangeSpec := { name := "fnExactMachinesFrom", fn := fun _ => fun
  | [d1, d2] => { results := [.lit (.bool true)], args := [d1, d2] }
  | _ => none }
def fnExactMachinesFromRow : OpenClaim := { program := "ytffaepmojpanoaa", sum := "d7434da6a70752ded6c39c99c35274406ce27eaad86c4f8c769f74bd33748717", func := "loop.example/g01045/laws.FnExactMachinesFrom", spec := "fnExactMachinesFrom", apart := false }
def FnExactMachinesFromSaid : Prop := fnExactMachinesFromRow.holds Try.pinned (OpenSpec.ofChange fnExactMachinesFromSpec)

/-- ITS FALSE NEIGHBOUR: 'it returns false'. Refute it at one input. -/
def fnExactMachinesFromWrong : ChangeSpec := { name := "fnExactMachinesFrom", fn := fun _ => fun
  | [d1, d2] => { results := [.lit (.bool false)], args := [d1, d2] }
  | _ => none }
def FnExactMachinesFromWrongFalsely : Prop := fnExactMachinesFromRow.holds Try.pinned (OpenSpec.ofChange fnExactMachinesFromWrong)

/-- 'laws.FnExactScarcePart': WHATEVER THE INPUT: true; the input reads as it did. -/
def fnExactScarcePartSpec : ChangeSpec := { name := "fnExactScarcePart", fn := fun _ => fun
  | [d1, d2] => { results := [.lit (.bool true)], args := [d1, d2] }
  | _ => none }
def fnExactScarcePartRow : OpenClaim := { program := "ytffaepmojpanoaa", sum := "d7434da6a70752ded6c39c99c35274406ce27eaad86c4f8c769f74bd33748717", func := "loop.example/g01045/laws.FnExactScarcePart", spec := "fnExactScarcePart", apart := false }
def FnExactScarcePartSaid : Prop := fnExactScarcePartRow.holds Try.pinned (OpenSpec.ofChange fnExactScarcePartSpec)

/-- ITS FALSE NEIGHBOUR: 'it returns false'. Refute it at one input. -/
def fnExactScarcePartWrong : ChangeSpec := { name := "fnExactScarcePart", fn := fun _ => fun
  | [d1, d2] => { results := [.lit (.bool false)], args := [d1, d2] }
  | _ => none }
def FnExactScarcePartWrongFalsely : Prop := fnExactScarcePartRow.holds Try.pinned (OpenSpec.ofChange fnExactScarcePartWrong)

/-- 'laws.FnExactBringParts': WHATEVER THE INPUT: true; the input reads as it did. -/
def fnExactBringPartsSpec : ChangeSpec := { name := "fnExactBringParts", fn := fun _ => fun
  | [d1, d2, d3] => { results := [.lit (.bool true)], args := [d1, d2, d3] }
  | _ => none }
def fnExactBringPartsRow : OpenClaim := { program := "ytffaepmojpanoaa", sum := "d7434da6a70752ded6c39c99c35274406ce27eaad86c4f8c769f74bd33748717", func := "loop.example/g01045/laws.FnExactBringParts", spec := "fnExactBringParts", apart := false }
def FnExactBringPartsSaid : Prop := fnExactBringPartsRow.holds Try.pinned (OpenSpec.ofChange fnExactBringPartsSpec)

/-- ITS FALSE NEIGHBOUR: 'it returns false'. Refute it at one input. -/
def fnExactBringPartsWrong : ChangeSpec := { name := "fnExactBringParts", fn := fun _ => fun
  | [d1, d2, d3] => { results := [.lit (.bool false)], args := [d1, d2, d3] }
  | _ => none }
def FnExactBringPartsWrongFalsely : Prop := fnExactBringPartsRow.holds Try.pinned (OpenSpec.ofChange fnExactBringPartsWrong)

/-- 'laws.FnExactTakeParts': WHATEVER THE INPUT: true; the input reads as it did. -/
def fnExactTakePartsSpec : ChangeSpec := { name := "fnExactTakeParts", fn := fun _ => fun
  | [d1, d2, d3] => { results := [.lit (.bool true)], args := [d1, d2, d3] }
  | _ => none }
def fnExactTakePartsRow : OpenClaim := { program := "ytffaepmojpanoaa", sum := "d7434da6a70752ded6c39c99c35274406ce27eaad86c4f8c769f74bd33748717", func := "loop.example/g01045/laws.FnExactTakeParts", spec := "fnExactTakeParts", apart := false }
def FnExactTakePartsSaid : Prop := fnExactTakePartsRow.holds Try.pinned (OpenSpec.ofChange fnExactTakePartsSpec)

/-- ITS FALSE NEIGHBOUR: 'it returns false'. Refute it at one input. -/
def fnExactTakePartsWrong : ChangeSpec := { name := "fnExactTakeParts", fn := fun _ => fun
  | [d1, d2, d3] => { results := [.lit (.bool false)], args := [d1, d2, d3] }
  | _ => none }
def FnExactTakePartsWrongFalsely : Prop := fnExactTakePartsRow.holds Try.pinned (OpenSpec.ofChange fnExactTakePartsWrong)

/-- 'laws.FnStores': WHATEVER THE INPUT: true; the input reads as it did. -/
def fnStoresSpec : ChangeSpec := { name := "fnStores", fn := fun _ => fun
  | [d] => { results := [.lit (.bool true)], args := [d] }
  | _ => none }
def fnStoresRow : OpenClaim := { program := "ytffaepmojpanoaa", sum := "d7434da6a70752ded6c39c99c35274406ce27eaad86c4f8c769f74bd33748717", func := "loop.example/g01045/laws.FnStores", spec := "fnStores", apart := false }
def FnStoresSaid : Prop := fnStoresRow.holds Try.pinned (OpenSpec.ofChange fnStoresSpec)

/-- ITS FALSE NEIGHBOUR: 'it returns false'. Refute it at one input. -/
def fnStoresWrong : ChangeSpec := { name := "fnStores", fn := fun _ => fun
  | [d] => { results := [.lit (.bool false)], args := [d] }
  | _ => none }
def FnStoresWrongFalsely : Prop := fnStoresRow.holds Try.pinned (OpenSpec.ofChange fnStoresWrong)

/- THE SECOND FORM. 'bulk': how many values and letters a reading holds, each counted each time it is reached (what is shared counts as often as it is met; a slice's spare places count too). A statement '..UptoSaid' is the law's where the arguments, and the package variables that the reading takes, are together of bulk at most 1048576: NARROWER than '..Said'. Prove '..Said' where nothing that the law and all that it calls make is longer than what came in: it says more and counts as full. Else prove '..UptoSaid'. A law counts once. -/
mutual
def uptoBulk {H : Type} : DataW H → Nat
  | .lit (.string bytes) => bytes.length + 1
  | .lit _ => 1
  | .nil => 1
  | .ptr d => uptoBulk d + 1
  | .slice elems spare => uptoBulkAll elems + uptoBulkAll spare + 1
  | .agg parts => uptoBulkAll parts + 1
  | .iface _ d => uptoBulk d + 1
  | .map entries => uptoBulkEntries entries + 1
  | .held _ => 1
def uptoBulkAll {H : Type} : List (DataW H) → Nat
  | [] => 0
  | d :: r => uptoBulk d + uptoBulkAll r
def uptoBulkEntries {H : Type} : List (Lit × DataW H) → Nat
  | [] => 0
  | x :: r => uptoBulkEntry x + uptoBulkEntries r
def uptoBulkEntry {H : Type} : Lit × DataW H → Nat
  | (.string bytes, d) => bytes.length + uptoBulk d + 1
  | (_, d) => uptoBulk d + 1
 end
def uptoSmall : (H : Type) → List (DataW H) → Bool := fun _ ds => decide (uptoBulkAll ds ≤ 1048576)
def OpenSpec.upto (s : _root_.Go.ChangeSpec) : _root_.Go.OpenSpec := { _root_.Go.OpenSpec.ofChange s with cond := some uptoSmall }

/-- 'laws.FnExactSameParts', WHERE WHAT IT READS IS OF BULK AT MOST 1048576: true; the input reads as it did. -/
def fnExactSamePartsUptoRow : OpenClaim := { program := "ytffaepmojpanoaa", sum := "d7434da6a70752ded6c39c99c35274406ce27eaad86c4f8c769f74bd33748717", func := "loop.example/g01045/laws.FnExactSameParts", spec := "fnExactSameParts", apart := false, narrowed := true }
def FnExactSamePartsUptoSaid : Prop := fnExactSamePartsUptoRow.holds Try.pinned (OpenSpec.upto fnExactSamePartsSpec)

/-- 'laws.FnExactValidParts', WHERE WHAT IT READS IS OF BULK AT MOST 1048576: true; the input reads as it did. -/
def fnExactValidPartsUptoRow : OpenClaim := { program := "ytffaepmojpanoaa", sum := "d7434da6a70752ded6c39c99c35274406ce27eaad86c4f8c769f74bd33748717", func := "loop.example/g01045/laws.FnExactValidParts", spec := "fnExactValidParts", apart := false, narrowed := true }
def FnExactValidPartsUptoSaid : Prop := fnExactValidPartsUptoRow.holds Try.pinned (OpenSpec.upto fnExactValidPartsSpec)

/-- 'laws.FnExactReplacementOf', WHERE WHAT IT READS IS OF BULK AT MOST 1048576: true; the input reads as it did. -/
def fnExactReplacementOfUptoRow : OpenClaim := { program := "ytffaepmojpanoaa", sum := "d7434da6a70752ded6c39c99c35274406ce27eaad86c4f8c769f74bd33748717", func := "loop.example/g01045/laws.FnExactReplacementOf", spec := "fnExactReplacementOf", apart := false, narrowed := true }
def FnExactReplacementOfUptoSaid : Prop := fnExactReplacementOfUptoRow.holds Try.pinned (OpenSpec.upto fnExactReplacementOfSpec)

/-- 'laws.FnExactOrderList', WHERE WHAT IT READS IS OF BULK AT MOST 1048576: true; the input reads as it did. -/
def fnExactOrderListUptoRow : OpenClaim := { program := "ytffaepmojpanoaa", sum := "d7434da6a70752ded6c39c99c35274406ce27eaad86c4f8c769f74bd33748717", func := "loop.example/g01045/laws.FnExactOrderList", spec := "fnExactOrderList", apart := false, narrowed := true }
def FnExactOrderListUptoSaid : Prop := fnExactOrderListUptoRow.holds Try.pinned (OpenSpec.upto fnExactOrderListSpec)

/-- 'laws.FnExactDeadParts', WHERE WHAT IT READS IS OF BULK AT MOST 1048576: true; the input reads as it did. -/
def fnExactDeadPartsUptoRow : OpenClaim := { program := "ytffaepmojpanoaa", sum := "d7434da6a70752ded6c39c99c35274406ce27eaad86c4f8c769f74bd33748717", func := "loop.example/g01045/laws.FnExactDeadParts", spec := "fnExactDeadParts", apart := false, narrowed := true }
def FnExactDeadPartsUptoSaid : Prop := fnExactDeadPartsUptoRow.holds Try.pinned (OpenSpec.upto fnExactDeadPartsSpec)

/-- 'laws.FnExactMachinesFrom', WHERE WHAT IT READS IS OF BULK AT MOST 1048576: true; the input reads as it did. -/
def fnExactMachinesFromUptoRow : OpenClaim := { program := "ytffaepmojpanoaa", sum := "d7434da6a70752ded6c39c99c35274406ce27eaad86c4f8c769f74bd33748717", func := "loop.example/g01045/laws.FnExactMachinesFrom", spec := "fnExactMachinesFrom", apart := false, narrowed := true }
def FnExactMachinesFromUptoSaid : Prop := fnExactMachinesFromUptoRow.holds Try.pinned (OpenSpec.upto fnExactMachinesFromSpec)

/-- 'laws.FnExactScarcePart', WHERE WHAT IT READS IS OF BULK AT MOST 1048576: true; the input reads as it did. -/
def fnExactScarcePartUptoRow : OpenClaim := { program := "ytffaepmojpanoaa", sum := "d7434da6a70752ded6c39c99c35274406ce27eaad86c4f8c769f74bd33748717", func := "loop.example/g01045/laws.FnExactScarcePart", spec := "fnExactScarcePart", apart := false, narrowed := true }
def FnExactScarcePartUptoSaid : Prop := fnExactScarcePartUptoRow.holds Try.pinned (OpenSpec.upto fnExactScarcePartSpec)

/-- 'laws.FnExactBringParts', WHERE WHAT IT READS IS OF BULK AT MOST 1048576: true; the input reads as it did. -/
def fnExactBringPartsUptoRow : OpenClaim := { program := "ytffaepmojpanoaa", sum := "d7434da6a70752ded6c39c99c35274406ce27eaad86c4f8c769f74bd33748717", func := "loop.example/g01045/laws.FnExactBringParts", spec := "fnExactBringParts", apart := false, narrowed := true }
def FnExactBringPartsUptoSaid : Prop := fnExactBringPartsUptoRow.holds Try.pinned (OpenSpec.upto fnExactBringPartsSpec)

/-- 'laws.FnExactTakeParts', WHERE WHAT IT READS IS OF BULK AT MOST 1048576: true; the input reads as it did. -/
def fnExactTakePartsUptoRow : OpenClaim := { program := "ytffaepmojpanoaa", sum := "d7434da6a70752ded6c39c99c35274406ce27eaad86c4f8c769f74bd33748717", func := "loop.example/g01045/laws.FnExactTakeParts", spec := "fnExactTakeParts", apart := false, narrowed := true }
def FnExactTakePartsUptoSaid : Prop := fnExactTakePartsUptoRow.holds Try.pinned (OpenSpec.upto fnExactTakePartsSpec)

/-- 'laws.FnStores', WHERE WHAT IT READS IS OF BULK AT MOST 1048576: true; the input reads as it did. -/
def fnStoresUptoRow : OpenClaim := { program := "ytffaepmojpanoaa", sum := "d7434da6a70752ded6c39c99c35274406ce27eaad86c4f8c769f74bd33748717", func := "loop.example/g01045/laws.FnStores", spec := "fnStores", apart := false, narrowed := true }
def FnStoresUptoSaid : Prop := fnStoresUptoRow.holds Try.pinned (OpenSpec.upto fnStoresSpec)

end Rows
end Go.Proofs.Ytffaepmojpanoaa
