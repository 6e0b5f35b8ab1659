/-
  No cell of these rows narrows 'for every input' (looked for: loops, veiled, ifaces, maps, wideKeys, modest, calm, conditions, laid).
  DERIVED. THE GIVEN ROWS OF THIS SEAT. 8 by the template 'for every input the law returns true; each argument reads behind the call as it read before'; 0 by the template 'total and deterministic' (their statements: YtkjccgkpieakpaaTotals.lean).
  GIVEN WITH THE SEED: the statements are not yours to turn. If you find one false, say at which input.
  Laid BY PROGRAM, IN A SANDBOX (cutbox-rows.mjs): the forced cells as the released guide's own fill.sh prints them over the translation 9fdcf0af311ae249… (all of the seat's roots in one cut). By AI agents, Wed Nov 11 2026. No macro, syntax, notation, axiom, sorry.
-/
import Derived.Test.YtkjccgkpieakpaaChecked
import GoSem.Claim
import GoSem.ClaimJoined
import GoSem.ClaimMapViews
import Derived.JoinedTies
import Derived.KernelRfl
namespace Go.Proofs.Ytkjccgkpieakpaa
/- THE CELL 'sum', in the pinned program and in every row, IS THE sha256 OF THE DUMP (.gsa) THAT YtkjccgkpieakpaaProg.lean LOADS. Nothing in Lean hashes anything: it is a label: what it is worth is what the hold of that sum in a sandbox is worth. -/
noncomputable def Try.pinned : Pinned := { name := "ytkjccgkpieakpaa", sum := "9fdcf0af311ae2499a6800b8acc34107b99bf9b67e747cef970a602aa65c20c2", checked := Try.checked }
namespace Rows
def none {H : Type} : Left H := { results := [], args := [] }

/-- 'laws.FnRacks': WHATEVER THE INPUT: true; the input reads as it did. -/
def fnRacksSpec : ChangeSpec := { name := "fnRacks", fn := fun _ => fun
  | [d] => { results := [.lit (.bool true)], args := [d] }
  | _ => none }
def fnRacksRow : OpenClaim := { program := "ytkjccgkpieakpaa", sum := "9fdcf0af311ae2499a6800b8acc34107b99bf9b67e747cef970a602aa65c20c2", func := "loop.example/g01045/laws.FnRacks", spec := "fnRacks", apart := false }
def FnRacksSaid : Prop := fnRacksRow.holds Try.pinned (OpenSpec.ofChange fnRacksSpec)

/-- ITS FALSE NEIGHBOUR: 'it returns false'. Refute it at one input. -/
def fnRacksWrong : ChangeSpec := { name := "fnRacks", fn := fun _ => fun
  | [d] => { results := [.lit (.bool false)], args := [d] }
  | _ => none }
def FnRacksWrongFalsely : Prop := fnRacksRow.holds Try.pinned (OpenSpec.ofChange fnRacksWrong)

/-- 'laws.FnBreaks': WHATEVER THE INPUT: true; the input reads as it did. -/
def fnBreaksSpec : ChangeSpec := { name := "fnBreaks", fn := fun _ => fun
  | [d1, d2] => { results := [.lit (.bool true)], args := [d1, d2] }
  | _ => none }
def fnBreaksRow : OpenClaim := { program := "ytkjccgkpieakpaa", sum := "9fdcf0af311ae2499a6800b8acc34107b99bf9b67e747cef970a602aa65c20c2", func := "loop.example/g01045/laws.FnBreaks", spec := "fnBreaks", apart := false }
def FnBreaksSaid : Prop := fnBreaksRow.holds Try.pinned (OpenSpec.ofChange fnBreaksSpec)

/-- ITS FALSE NEIGHBOUR: 'it returns false'. Refute it at one input. -/
def fnBreaksWrong : ChangeSpec := { name := "fnBreaks", fn := fun _ => fun
  | [d1, d2] => { results := [.lit (.bool false)], args := [d1, d2] }
  | _ => none }
def FnBreaksWrongFalsely : Prop := fnBreaksRow.holds Try.pinned (OpenSpec.ofChange fnBreaksWrong)

/-- 'laws.FnCentred': WHATEVER THE INPUT: true; the input reads as it did. -/
def fnCentredSpec : ChangeSpec := { name := "fnCentred", fn := fun _ => fun
  | [d] => { results := [.lit (.bool true)], args := [d] }
  | _ => none }
def fnCentredRow : OpenClaim := { program := "ytkjccgkpieakpaa", sum := "9fdcf0af311ae2499a6800b8acc34107b99bf9b67e747cef970a602aa65c20c2", func := "loop.example/g01045/laws.FnCentred", spec := "fnCentred", apart := false }
def FnCentredSaid : Prop := fnCentredRow.holds Try.pinned (OpenSpec.ofChange fnCentredSpec)

/-- ITS FALSE NEIGHBOUR: 'it returns false'. Refute it at one input. -/
def fnCentredWrong : ChangeSpec := { name := "fnCentred", fn := fun _ => fun
  | [d] => { results := [.lit (.bool false)], args := [d] }
  | _ => none }
def FnCentredWrongFalsely : Prop := fnCentredRow.holds Try.pinned (OpenSpec.ofChange fnCentredWrong)

/-- 'laws.FnBoxes': WHATEVER THE INPUT: true; the input reads as it did. -/
def fnBoxesSpec : ChangeSpec := { name := "fnBoxes", fn := fun _ => fun
  | [d] => { results := [.lit (.bool true)], args := [d] }
  | _ => none }
def fnBoxesRow : OpenClaim := { program := "ytkjccgkpieakpaa", sum := "9fdcf0af311ae2499a6800b8acc34107b99bf9b67e747cef970a602aa65c20c2", func := "loop.example/g01045/laws.FnBoxes", spec := "fnBoxes", apart := false }
def FnBoxesSaid : Prop := fnBoxesRow.holds Try.pinned (OpenSpec.ofChange fnBoxesSpec)

/-- ITS FALSE NEIGHBOUR: 'it returns false'. Refute it at one input. -/
def fnBoxesWrong : ChangeSpec := { name := "fnBoxes", fn := fun _ => fun
  | [d] => { results := [.lit (.bool false)], args := [d] }
  | _ => none }
def FnBoxesWrongFalsely : Prop := fnBoxesRow.holds Try.pinned (OpenSpec.ofChange fnBoxesWrong)

/-- 'laws.FnSetLines': WHATEVER THE INPUT: true; the input reads as it did. -/
def fnSetLinesSpec : ChangeSpec := { name := "fnSetLines", fn := fun _ => fun
  | [d1, d2] => { results := [.lit (.bool true)], args := [d1, d2] }
  | _ => none }
def fnSetLinesRow : OpenClaim := { program := "ytkjccgkpieakpaa", sum := "9fdcf0af311ae2499a6800b8acc34107b99bf9b67e747cef970a602aa65c20c2", func := "loop.example/g01045/laws.FnSetLines", spec := "fnSetLines", inPlace := ["internal/abi.NoEscape", "internal/bytealg.MakeNoZero"], apart := false }
def FnSetLinesSaid : Prop := fnSetLinesRow.holds Try.pinned (OpenSpec.ofChange fnSetLinesSpec)

/-- ITS FALSE NEIGHBOUR: 'it returns false'. Refute it at one input. -/
def fnSetLinesWrong : ChangeSpec := { name := "fnSetLines", fn := fun _ => fun
  | [d1, d2] => { results := [.lit (.bool false)], args := [d1, d2] }
  | _ => none }
def FnSetLinesWrongFalsely : Prop := fnSetLinesRow.holds Try.pinned (OpenSpec.ofChange fnSetLinesWrong)

/-- 'laws.FnCarriageLines': WHATEVER THE INPUT: true; the input reads as it did. -/
def fnCarriageLinesSpec : ChangeSpec := { name := "fnCarriageLines", fn := fun _ => fun
  | [d] => { results := [.lit (.bool true)], args := [d] }
  | _ => none }
def fnCarriageLinesRow : OpenClaim := { program := "ytkjccgkpieakpaa", sum := "9fdcf0af311ae2499a6800b8acc34107b99bf9b67e747cef970a602aa65c20c2", func := "loop.example/g01045/laws.FnCarriageLines", spec := "fnCarriageLines", apart := false }
def FnCarriageLinesSaid : Prop := fnCarriageLinesRow.holds Try.pinned (OpenSpec.ofChange fnCarriageLinesSpec)

/-- ITS FALSE NEIGHBOUR: 'it returns false'. Refute it at one input. -/
def fnCarriageLinesWrong : ChangeSpec := { name := "fnCarriageLines", fn := fun _ => fun
  | [d] => { results := [.lit (.bool false)], args := [d] }
  | _ => none }
def FnCarriageLinesWrongFalsely : Prop := fnCarriageLinesRow.holds Try.pinned (OpenSpec.ofChange fnCarriageLinesWrong)

/-- 'laws.FnTypedActs': WHATEVER THE INPUT: true; the input reads as it did. -/
def fnTypedActsSpec : ChangeSpec := { name := "fnTypedActs", fn := fun _ => fun
  | [d] => { results := [.lit (.bool true)], args := [d] }
  | _ => none }
def fnTypedActsRow : OpenClaim := { program := "ytkjccgkpieakpaa", sum := "9fdcf0af311ae2499a6800b8acc34107b99bf9b67e747cef970a602aa65c20c2", func := "loop.example/g01045/laws.FnTypedActs", spec := "fnTypedActs", apart := false }
def FnTypedActsSaid : Prop := fnTypedActsRow.holds Try.pinned (OpenSpec.ofChange fnTypedActsSpec)

/-- ITS FALSE NEIGHBOUR: 'it returns false'. Refute it at one input. -/
def fnTypedActsWrong : ChangeSpec := { name := "fnTypedActs", fn := fun _ => fun
  | [d] => { results := [.lit (.bool false)], args := [d] }
  | _ => none }
def FnTypedActsWrongFalsely : Prop := fnTypedActsRow.holds Try.pinned (OpenSpec.ofChange fnTypedActsWrong)

/-- 'laws.FnTableColumns': WHATEVER THE INPUT: true; the input reads as it did. -/
def fnTableColumnsSpec : ChangeSpec := { name := "fnTableColumns", fn := fun _ => fun
  | [d] => { results := [.lit (.bool true)], args := [d] }
  | _ => none }
def fnTableColumnsRow : OpenClaim := { program := "ytkjccgkpieakpaa", sum := "9fdcf0af311ae2499a6800b8acc34107b99bf9b67e747cef970a602aa65c20c2", func := "loop.example/g01045/laws.FnTableColumns", spec := "fnTableColumns", apart := false }
def FnTableColumnsSaid : Prop := fnTableColumnsRow.holds Try.pinned (OpenSpec.ofChange fnTableColumnsSpec)

/-- ITS FALSE NEIGHBOUR: 'it returns false'. Refute it at one input. -/
def fnTableColumnsWrong : ChangeSpec := { name := "fnTableColumns", fn := fun _ => fun
  | [d] => { results := [.lit (.bool false)], args := [d] }
  | _ => none }
def FnTableColumnsWrongFalsely : Prop := fnTableColumnsRow.holds Try.pinned (OpenSpec.ofChange fnTableColumnsWrong)

/- THE SECOND FORM. 'bulk': how many values and letters a reading holds, each counted each time it is reached (what is shared counts as often as it is met; a slice's spare places count too). A statement '..UptoSaid' is the law's where the arguments, and the package variables that the reading takes, are together of bulk at most 1048576: NARROWER than '..Said'. Prove '..Said' where nothing that the law and all that it calls make is longer than what came in: it says more and counts as full. Else prove '..UptoSaid'. A law counts once. -/
mutual
def uptoBulk {H : Type} : DataW H → Nat
  | .lit (.string bytes) => bytes.length + 1
  | .lit _ => 1
  | .nil => 1
  | .ptr d => uptoBulk d + 1
  | .slice elems spare => uptoBulkAll elems + uptoBulkAll spare + 1
  | .agg parts => uptoBulkAll parts + 1
  | .iface _ d => uptoBulk d + 1
  | .map entries => uptoBulkEntries entries + 1
  | .held _ => 1
def uptoBulkAll {H : Type} : List (DataW H) → Nat
  | [] => 0
  | d :: r => uptoBulk d + uptoBulkAll r
def uptoBulkEntries {H : Type} : List (Lit × DataW H) → Nat
  | [] => 0
  | x :: r => uptoBulkEntry x + uptoBulkEntries r
def uptoBulkEntry {H : Type} : Lit × DataW H → Nat
  | (.string bytes, d) => bytes.length + uptoBulk d + 1
  | (_, d) => uptoBulk d + 1
 end
def uptoSmall : (H : Type) → List (DataW H) → Bool := fun _ ds => decide (uptoBulkAll ds ≤ 1048576)
def OpenSpec.upto (s : _root_.Go.ChangeSpec) : _root_.Go.OpenSpec := { _root_.Go.OpenSpec.ofChange s with cond := some uptoSmall }

/-- 'laws.FnRacks', WHERE WHAT IT READS IS OF BULK AT MOST 1048576: true; the input reads as it did. -/
def fnRacksUptoRow : OpenClaim := { program := "ytkjccgkpieakpaa", sum := "9fdcf0af311ae2499a6800b8acc34107b99bf9b67e747cef970a602aa65c20c2", func := "loop.example/g01045/laws.FnRacks", spec := "fnRacks", apart := false, narrowed := true }
def FnRacksUptoSaid : Prop := fnRacksUptoRow.holds Try.pinned (OpenSpec.upto fnRacksSpec)

/-- 'laws.FnBreaks', WHERE WHAT IT READS IS OF BULK AT MOST 1048576: true; the input reads as it did. -/
def fnBreaksUptoRow : OpenClaim := { program := "ytkjccgkpieakpaa", sum := "9fdcf0af311ae2499a6800b8acc34107b99bf9b67e747cef970a602aa65c20c2", func := "loop.example/g01045/laws.FnBreaks", spec := "fnBreaks", apart := false, narrowed := true }
def FnBreaksUptoSaid : Prop := fnBreaksUptoRow.holds Try.pinned (OpenSpec.upto fnBreaksSpec)

/-- 'laws.FnCentred', WHERE WHAT IT READS IS OF BULK AT MOST 1048576: true; the input reads as it did. -/
def fnCentredUptoRow : OpenClaim := { program := "ytkjccgkpieakpaa", sum := "9fdcf0af311ae2499a6800b8acc34107b99bf9b67e747cef970a602aa65c20c2", func := "loop.example/g01045/laws.FnCentred", spec := "fnCentred", apart := false, narrowed := true }
def FnCentredUptoSaid : Prop := fnCentredUptoRow.holds Try.pinned (OpenSpec.upto fnCentredSpec)

/-- 'laws.FnBoxes', WHERE WHAT IT READS IS OF BULK AT MOST 1048576: true; the input reads as it did. -/
def fnBoxesUptoRow : OpenClaim := { program := "ytkjccgkpieakpaa", sum := "9fdcf0af311ae2499a6800b8acc34107b99bf9b67e747cef970a602aa65c20c2", func := "loop.example/g01045/laws.FnBoxes", spec := "fnBoxes", apart := false, narrowed := true }
def FnBoxesUptoSaid : Prop := fnBoxesUptoRow.holds Try.pinned (OpenSpec.upto fnBoxesSpec)

/-- 'laws.FnSetLines', WHERE WHAT IT READS IS OF BULK AT MOST 1048576: true; the input reads as it did. -/
def fnSetLinesUptoRow : OpenClaim := { program := "ytkjccgkpieakpaa", sum := "9fdcf0af311ae2499a6800b8acc34107b99bf9b67e747cef970a602aa65c20c2", func := "loop.example/g01045/laws.FnSetLines", spec := "fnSetLines", inPlace := ["internal/abi.NoEscape", "internal/bytealg.MakeNoZero"], apart := false, narrowed := true }
def FnSetLinesUptoSaid : Prop := fnSetLinesUptoRow.holds Try.pinned (OpenSpec.upto fnSetLinesSpec)

/-- 'laws.FnCarriageLines', WHERE WHAT IT READS IS OF BULK AT MOST 1048576: true; the input reads as it did. -/
def fnCarriageLinesUptoRow : OpenClaim := { program := "ytkjccgkpieakpaa", sum := "9fdcf0af311ae2499a6800b8acc34107b99bf9b67e747cef970a602aa65c20c2", func := "loop.example/g01045/laws.FnCarriageLines", spec := "fnCarriageLines", apart := false, narrowed := true }
def FnCarriageLinesUptoSaid : Prop := fnCarriageLinesUptoRow.holds Try.pinned (OpenSpec.upto fnCarriageLinesSpec)

/-- 'laws.FnTypedActs', WHERE WHAT IT READS IS OF BULK AT MOST 1048576: true; the input reads as it did. -/
def fnTypedActsUptoRow : OpenClaim := { program := "ytkjccgkpieakpaa", sum := "9fdcf0af311ae2499a6800b8acc34107b99bf9b67e747cef970a602aa65c20c2", func := "loop.example/g01045/laws.FnTypedActs", spec := "fnTypedActs", apart := false, narrowed := true }
def FnTypedActsUptoSaid : Prop := fnTypedActsUptoRow.holds Try.pinned (OpenSpec.upto fnTypedActsSpec)

/-- 'laws.FnTableColumns', WHERE WHAT IT READS IS OF BULK AT MOST 1048576: true; the input reads as it did. -/
def fnTableColumnsUptoRow : OpenClaim := { program := "ytkjccgkpieakpaa", sum := "9fdcf0af311ae2499a6800b8acc34107b99bf9b67e747cef970a602aa65c20c2", func := "loop.example/g01045/laws.FnTableColumns", spec := "fnTableColumns", apart := false, narrowed := true }
def FnTableColumnsUptoSaid : Prop := fnTableColumnsUptoRow.holds Try.pinned (OpenSpec.upto fnTableColumnsSpec)

end Rows
end Go.Proofs.Ytkjccgkpieakpaa
