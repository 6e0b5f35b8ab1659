/-
  No cell of these rows narrows 'for every input' (looked for: loops, veiled, ifaces, maps, wideKeys, modest, calm, conditions, laid).
  DERIVED. THE GIVEN ROWS OF THIS SEAT. 4 by the template 'for every input the law returns true; each argument reads behind the call as it read before'; 0 by the template 'total and deterministic' (their statements: YtlmpbacboapkaaaTotals.lean).
  GIVEN WITH THE SEED: the statements are not yours to turn. If you find one false, say at which input.
  Laid BY PROGRAM, IN A SANDBOX (cutbox-rows.mjs): the forced cells as the released guide's own fill.sh prints them over the translation 8b44864f12e0589b… (all of the seat's roots in one cut). By AI agents, Wed Nov 11 2026. No macro, syntax, notation, axiom, sorry.
-/
import Derived.Test.YtlmpbacboapkaaaChecked
import GoSem.Claim
import GoSem.ClaimJoined
import GoSem.ClaimMapViews
import Derived.JoinedTies
import Derived.KernelRfl
namespace Go.Proofs.Ytlmpbacboapkaaa
/- THE CELL 'sum', in the pinned program and in every row, IS THE sha256 OF THE DUMP (.gsa) THAT YtlmpbacboapkaaaProg.lean LOADS. Nothing in Lean hashes anything: it is a label: what it is worth is what the hold of that sum in a sandbox is worth. -/
noncomputable def Try.pinned : Pinned := { name := "ytlmpbacboapkaaa", sum := "8b44864f12e0589b3f56b942de95a24fdbff0ec416e11f1621d698ea9b516b92", checked := Try.checked }
namespace Rows
def none {H : Type} : Left H := { results := [], args := [] }

/-- 'laws.FnSetLines': WHATEVER THE INPUT: true; the input reads as it did. -/
def fnSetLinesSpec : ChangeSpec := { name := "fnSetLines", fn := fun _ => fun
  | [d1, d2] => { results := [.lit (.bool true)], args := [d1, d2] }
  | _ => none }
def fnSetLinesRow : OpenClaim := { program := "ytlmpbacboapkaaa", sum := "8b44864f12e0589b3f56b942de95a24fdbff0ec416e11f1621d698ea9b516b92", func := "loop.example/g01045/laws.FnSetLines", spec := "fnSetLines", inPlace := ["internal/abi.NoEscape", "internal/bytealg.MakeNoZero"], apart := false }
def FnSetLinesSaid : Prop := fnSetLinesRow.holds Try.pinned (OpenSpec.ofChange fnSetLinesSpec)

/-- ITS FALSE NEIGHBOUR: 'it returns false'. Refute it at one input. -/
def fnSetLinesWrong : ChangeSpec := { name := "fnSetLines", fn := fun _ => fun
  | [d1, d2] => { results := [.lit (.bool false)], args := [d1, d2] }
  | _ => none }
def FnSetLinesWrongFalsely : Prop := fnSetLinesRow.holds Try.pinned (OpenSpec.ofChange fnSetLinesWrong)

/-- 'laws.FnBreaks': WHATEVER THE INPUT: true; the input reads as it did. -/
def fnBreaksSpec : ChangeSpec := { name := "fnBreaks", fn := fun _ => fun
  | [d1, d2] => { results := [.lit (.bool true)], args := [d1, d2] }
  | _ => none }
def fnBreaksRow : OpenClaim := { program := "ytlmpbacboapkaaa", sum := "8b44864f12e0589b3f56b942de95a24fdbff0ec416e11f1621d698ea9b516b92", func := "loop.example/g01045/laws.FnBreaks", spec := "fnBreaks", apart := false }
def FnBreaksSaid : Prop := fnBreaksRow.holds Try.pinned (OpenSpec.ofChange fnBreaksSpec)

/-- ITS FALSE NEIGHBOUR: 'it returns false'. Refute it at one input. -/
def fnBreaksWrong : ChangeSpec := { name := "fnBreaks", fn := fun _ => fun
  | [d1, d2] => { results := [.lit (.bool false)], args := [d1, d2] }
  | _ => none }
def FnBreaksWrongFalsely : Prop := fnBreaksRow.holds Try.pinned (OpenSpec.ofChange fnBreaksWrong)

/-- 'laws.FnTableColumns': WHATEVER THE INPUT: true; the input reads as it did. -/
def fnTableColumnsSpec : ChangeSpec := { name := "fnTableColumns", fn := fun _ => fun
  | [d] => { results := [.lit (.bool true)], args := [d] }
  | _ => none }
def fnTableColumnsRow : OpenClaim := { program := "ytlmpbacboapkaaa", sum := "8b44864f12e0589b3f56b942de95a24fdbff0ec416e11f1621d698ea9b516b92", func := "loop.example/g01045/laws.FnTableColumns", spec := "fnTableColumns", apart := false }
def FnTableColumnsSaid : Prop := fnTableColumnsRow.holds Try.pinned (OpenSpec.ofChange fnTableColumnsSpec)

/-- ITS FALSE NEIGHBOUR: 'it returns false'. Refute it at one input. -/
def fnTableColumnsWrong : ChangeSpec := { name := "fnTableColumns", fn := fun _ => fun
  | [d] => { results := [.lit (.bool false)], args := [d] }
  | _ => none }
def FnTableColumnsWrongFalsely : Prop := fnTableColumnsRow.holds Try.pinned (OpenSpec.ofChange fnTableColumnsWrong)

/-- 'laws.FnLayouts': WHATEVER THE INPUT: true; the input reads as it did. -/
def fnLayoutsSpec : ChangeSpec := { name := "fnLayouts", fn := fun _ => fun
  | [d] => { results := [.lit (.bool true)], args := [d] }
  | _ => none }
def fnLayoutsRow : OpenClaim := { program := "ytlmpbacboapkaaa", sum := "8b44864f12e0589b3f56b942de95a24fdbff0ec416e11f1621d698ea9b516b92", func := "loop.example/g01045/laws.FnLayouts", spec := "fnLayouts", inPlace := ["internal/abi.NoEscape", "internal/bytealg.MakeNoZero"], apart := false }
def FnLayoutsSaid : Prop := fnLayoutsRow.holds Try.pinned (OpenSpec.ofChange fnLayoutsSpec)

/-- ITS FALSE NEIGHBOUR: 'it returns false'. Refute it at one input. -/
def fnLayoutsWrong : ChangeSpec := { name := "fnLayouts", fn := fun _ => fun
  | [d] => { results := [.lit (.bool false)], args := [d] }
  | _ => none }
def FnLayoutsWrongFalsely : Prop := fnLayoutsRow.holds Try.pinned (OpenSpec.ofChange fnLayoutsWrong)

/- THE SECOND FORM. 'bulk': how many values and letters a reading holds, each counted each time it is reached (what is shared counts as often as it is met; a slice's spare places count too). A statement '..UptoSaid' is the law's where the arguments, and the package variables that the reading takes, are together of bulk at most 1048576: NARROWER than '..Said'. Prove '..Said' where nothing that the law and all that it calls make is longer than what came in: it says more and counts as full. Else prove '..UptoSaid'. A law counts once. -/
mutual
def uptoBulk {H : Type} : DataW H → Nat
  | .lit (.string bytes) => bytes.length + 1
  | .lit _ => 1
  | .nil => 1
  | .ptr d => uptoBulk d + 1
  | .slice elems spare => uptoBulkAll elems + uptoBulkAll spare + 1
  | .agg parts => uptoBulkAll parts + 1
  | .iface _ d => uptoBulk d + 1
  | .map entries => uptoBulkEntries entries + 1
  | .held _ => 1
def uptoBulkAll {H : Type} : List (DataW H) → Nat
  | [] => 0
  | d :: r => uptoBulk d + uptoBulkAll r
def uptoBulkEntries {H : Type} : List (Lit × DataW H) → Nat
  | [] => 0
  | x :: r => uptoBulkEntry x + uptoBulkEntries r
def uptoBulkEntry {H : Type} : Lit × DataW H → Nat
  | (.string bytes, d) => bytes.length + uptoBulk d + 1
  | (_, d) => uptoBulk d + 1
 end
def uptoSmall : (H : Type) → List (DataW H) → Bool := fun _ ds => decide (uptoBulkAll ds ≤ 1048576)
def OpenSpec.upto (s : _root_.Go.ChangeSpec) : _root_.Go.OpenSpec := { _root_.Go.OpenSpec.ofChange s with cond := some uptoSmall }

/-- 'laws.FnSetLines', WHERE WHAT IT READS IS OF BULK AT MOST 1048576: true; the input reads as it did. -/
def fnSetLinesUptoRow : OpenClaim := { program := "ytlmpbacboapkaaa", sum := "8b44864f12e0589b3f56b942de95a24fdbff0ec416e11f1621d698ea9b516b92", func := "loop.example/g01045/laws.FnSetLines", spec := "fnSetLines", inPlace := ["internal/abi.NoEscape", "internal/bytealg.MakeNoZero"], apart := false, narrowed := true }
def FnSetLinesUptoSaid : Prop := fnSetLinesUptoRow.holds Try.pinned (OpenSpec.upto fnSetLinesSpec)

/-- 'laws.FnBreaks', WHERE WHAT IT READS IS OF BULK AT MOST 1048576: true; the input reads as it did. -/
def fnBreaksUptoRow : OpenClaim := { program := "ytlmpbacboapkaaa", sum := "8b44864f12e0589b3f56b942de95a24fdbff0ec416e11f1621d698ea9b516b92", func := "loop.example/g01045/laws.FnBreaks", spec := "fnBreaks", apart := false, narrowed := true }
def FnBreaksUptoSaid : Prop := fnBreaksUptoRow.holds Try.pinned (OpenSpec.upto fnBreaksSpec)

/-- 'laws.FnTableColumns', WHERE WHAT IT READS IS OF BULK AT MOST 1048576: true; the input reads as it did. -/
def fnTableColumnsUptoRow : OpenClaim := { program := "ytlmpbacboapkaaa", sum := "8b44864f12e0589b3f56b942de95a24fdbff0ec416e11f1621d698ea9b516b92", func := "loop.example/g01045/laws.FnTableColumns", spec := "fnTableColumns", apart := false, narrowed := true }
def FnTableColumnsUptoSaid : Prop := fnTableColumnsUptoRow.holds Try.pinned (OpenSpec.upto fnTableColumnsSpec)

/-- 'laws.FnLayouts', WHERE WHAT IT READS IS OF BULK AT MOST 1048576: true; the input reads as it did. -/
def fnLayoutsUptoRow : OpenClaim := { program := "ytlmpbacboapkaaa", sum := "8b44864f12e0589b3f56b942de95a24fdbff0ec416e11f1621d698ea9b516b92", func := "loop.example/g01045/laws.FnLayouts", spec := "fnLayouts", inPlace := ["internal/abi.NoEscape", "internal/bytealg.MakeNoZero"], apart := false, narrowed := true }
def FnLayoutsUptoSaid : Prop := fnLayoutsUptoRow.holds Try.pinned (OpenSpec.upto fnLayoutsSpec)

end Rows
end Go.Proofs.Ytlmpbacboapkaaa
