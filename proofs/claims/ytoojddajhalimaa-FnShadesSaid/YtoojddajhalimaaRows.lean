/-
  No cell of these rows narrows 'for every input' (looked for: loops, veiled, ifaces, maps, wideKeys, modest, calm, conditions, laid).
  DERIVED. THE GIVEN ROWS OF THIS SEAT. 7 by the template 'for every input the law returns true; each argument reads behind the call as it read before'; 0 by the template 'total and deterministic' (their statements: YtoojddajhalimaaTotals.lean).
  GIVEN WITH THE SEED: the statements are not yours to turn. If you find one false, say at which input.
  Laid BY PROGRAM, IN A SANDBOX (cutbox-rows.mjs): the forced cells as the released guide's own fill.sh prints them over the translation f4a528bdb18f7e0c… (all of the seat's roots in one cut). By AI agents, Wed Nov 11 2026. No macro, syntax, notation, axiom, sorry.
-/
import Derived.Test.YtoojddajhalimaaChecked
import GoSem.Claim
import GoSem.ClaimJoined
import GoSem.ClaimMapViews
import Derived.JoinedTies
import Derived.KernelRfl
namespace Go.Proofs.Ytoojddajhalimaa
/- THE CELL 'sum', in the pinned program and in every row, IS THE sha256 OF THE DUMP (.gsa) THAT YtoojddajhalimaaProg.lean LOADS. Nothing in Lean hashes anything: it is a label: what it is worth is what the hold of that sum in a sandbox is worth. -/
noncomputable def Try.pinned : Pinned := { name := "ytoojddajhalimaa", sum := "f4a528bdb18f7e0c2220db417125db543c327155eadf3cc451ba030157967ce2", checked := Try.checked }
namespace Rows
def none {H : Type} : Left H := { results := [], args := [] }

/-- 'laws.FnCorrected': WHATEVER THE INPUT: true; the input reads as it did. -/
def fnCorrectedSpec : ChangeSpec := { name := "fnCorrected", fn := fun _ => fun
  | [d] => { results := [.lit (.bool true)], args := [d] }
  | _ => none }
def fnCorrectedRow : OpenClaim := { program := "ytoojddajhalimaa", sum := "f4a528bdb18f7e0c2220db417125db543c327155eadf3cc451ba030157967ce2", func := "loop.example/g01045/laws.FnCorrected", spec := "fnCorrected", apart := false }
def FnCorrectedSaid : Prop := fnCorrectedRow.holds Try.pinned (OpenSpec.ofChange fnCorrectedSpec)

/-- ITS FALSE NEIGHBOUR: 'it returns false'. Refute it at one input. -/
def fnCorrectedWrong : ChangeSpec := { name := "fnCorrected", fn := fun _ => fun
  | [d] => { results := [.lit (.bool false)], args := [d] }
  | _ => none }
def FnCorrectedWrongFalsely : Prop := fnCorrectedRow.holds Try.pinned (OpenSpec.ofChange fnCorrectedWrong)

/-- 'laws.FnDeadKeys': WHATEVER THE INPUT: true; the input reads as it did. -/
def fnDeadKeysSpec : ChangeSpec := { name := "fnDeadKeys", fn := fun _ => fun
  | [d] => { results := [.lit (.bool true)], args := [d] }
  | _ => none }
def fnDeadKeysRow : OpenClaim := { program := "ytoojddajhalimaa", sum := "f4a528bdb18f7e0c2220db417125db543c327155eadf3cc451ba030157967ce2", func := "loop.example/g01045/laws.FnDeadKeys", spec := "fnDeadKeys", apart := false }
def FnDeadKeysSaid : Prop := fnDeadKeysRow.holds Try.pinned (OpenSpec.ofChange fnDeadKeysSpec)

/-- ITS FALSE NEIGHBOUR: 'it returns false'. Refute it at one input. -/
def fnDeadKeysWrong : ChangeSpec := { name := "fnDeadKeys", fn := fun _ => fun
  | [d] => { results := [.lit (.bool false)], args := [d] }
  | _ => none }
def FnDeadKeysWrongFalsely : Prop := fnDeadKeysRow.holds Try.pinned (OpenSpec.ofChange fnDeadKeysWrong)

/-- 'laws.FnShades': WHATEVER THE INPUT: true; the input reads as it did. -/
def fnShadesSpec : ChangeSpec := { name := "fnShades", fn := fun _ => fun
  | [d] => { results := [.lit (.bool true)], args := [d] }
  | _ => none }
def fnShadesRow : OpenClaim := { program := "ytoojddajhalimaa", sum := "f4a528bdb18f7e0c2220db417125db543c327155eadf3cc451ba030157967ce2", func := "loop.example/g01045/laws.FnShades", spec := "fnShades", apart := false }
def FnShadesSaid : Prop := fnShadesRow.holds Try.pinned (OpenSpec.ofChange fnShadesSpec)

/-- ITS FALSE NEIGHBOUR: 'it returns false'. Refute it at one input. -/
def fnShadesWrong : ChangeSpec := { name := "fnShades", fn := fun _ => fun
  | [d] => { results := [.lit (.bool false)], args := [d] }
  | _ => none }
def FnShadesWrongFalsely : Prop := fnShadesRow.holds Try.pinned (OpenSpec.ofChange fnShadesWrong)

/-- 'laws.FnWordStarts': WHATEVER THE INPUT: true; the input reads as it did. -/
def fnWordStartsSpec : ChangeSpec := { name := "fnWordStarts", fn := fun _ => fun
  | [d] => { results := [.lit (.bool true)], args := [d] }
  | _ => none }
def fnWordStartsRow : OpenClaim := { program := "ytoojddajhalimaa", sum := "f4a528bdb18f7e0c2220db417125db543c327155eadf3cc451ba030157967ce2", func := "loop.example/g01045/laws.FnWordStarts", spec := "fnWordStarts", apart := false }
def FnWordStartsSaid : Prop := fnWordStartsRow.holds Try.pinned (OpenSpec.ofChange fnWordStartsSpec)

/-- ITS FALSE NEIGHBOUR: 'it returns false'. Refute it at one input. -/
def fnWordStartsWrong : ChangeSpec := { name := "fnWordStarts", fn := fun _ => fun
  | [d] => { results := [.lit (.bool false)], args := [d] }
  | _ => none }
def FnWordStartsWrongFalsely : Prop := fnWordStartsRow.holds Try.pinned (OpenSpec.ofChange fnWordStartsWrong)

/-- 'laws.FnRecords': WHATEVER THE INPUT: true; the input reads as it did. -/
def fnRecordsSpec : ChangeSpec := { name := "fnRecords", fn := fun _ => fun
  | [d] => { results := [.lit (.bool true)], args := [d] }
  | _ => none }
def fnRecordsRow : OpenClaim := { program := "ytoojddajhalimaa", sum := "f4a528bdb18f7e0c2220db417125db543c327155eadf3cc451ba030157967ce2", func := "loop.example/g01045/laws.FnRecords", spec := "fnRecords", inPlace := ["internal/reflectlite.ValueOf", "internal/reflectlite.Swapper", "(internal/reflectlite.Value).Len"], unfollowed := true, recurses := true, apart := false }
def FnRecordsSaid : Prop := fnRecordsRow.holds Try.pinned (OpenSpec.ofChange fnRecordsSpec)

/-- ITS FALSE NEIGHBOUR: 'it returns false'. Refute it at one input. -/
def fnRecordsWrong : ChangeSpec := { name := "fnRecords", fn := fun _ => fun
  | [d] => { results := [.lit (.bool false)], args := [d] }
  | _ => none }
def FnRecordsWrongFalsely : Prop := fnRecordsRow.holds Try.pinned (OpenSpec.ofChange fnRecordsWrong)

/-- 'laws.FnMarks': WHATEVER THE INPUT: true; the input reads as it did. -/
def fnMarksSpec : ChangeSpec := { name := "fnMarks", fn := fun _ => fun
  | [d] => { results := [.lit (.bool true)], args := [d] }
  | _ => none }
def fnMarksRow : OpenClaim := { program := "ytoojddajhalimaa", sum := "f4a528bdb18f7e0c2220db417125db543c327155eadf3cc451ba030157967ce2", func := "loop.example/g01045/laws.FnMarks", spec := "fnMarks", apart := false }
def FnMarksSaid : Prop := fnMarksRow.holds Try.pinned (OpenSpec.ofChange fnMarksSpec)

/-- ITS FALSE NEIGHBOUR: 'it returns false'. Refute it at one input. -/
def fnMarksWrong : ChangeSpec := { name := "fnMarks", fn := fun _ => fun
  | [d] => { results := [.lit (.bool false)], args := [d] }
  | _ => none }
def FnMarksWrongFalsely : Prop := fnMarksRow.holds Try.pinned (OpenSpec.ofChange fnMarksWrong)

/-- 'laws.FnReadings': WHATEVER THE INPUT: true; the input reads as it did. -/
def fnReadingsSpec : ChangeSpec := { name := "fnReadings", fn := fun _ => fun
  | [d1, d2] => { results := [.lit (.bool true)], args := [d1, d2] }
  | _ => none }
def fnReadingsRow : OpenClaim := { program := "ytoojddajhalimaa", sum := "f4a528bdb18f7e0c2220db417125db543c327155eadf3cc451ba030157967ce2", func := "loop.example/g01045/laws.FnReadings", spec := "fnReadings", apart := false }
def FnReadingsSaid : Prop := fnReadingsRow.holds Try.pinned (OpenSpec.ofChange fnReadingsSpec)

/-- ITS FALSE NEIGHBOUR: 'it returns false'. Refute it at one input. -/
def fnReadingsWrong : ChangeSpec := { name := "fnReadings", fn := fun _ => fun
  | [d1, d2] => { results := [.lit (.bool false)], args := [d1, d2] }
  | _ => none }
def FnReadingsWrongFalsely : Prop := fnReadingsRow.holds Try.pinned (OpenSpec.ofChange fnReadingsWrong)

/- THE SECOND FORM. 'bulk': how many values and letters a reading holds, each counted each time it is reached (what is shared counts as often as it is met; a slice's spare places count too). A statement '..UptoSaid' is the law's where the arguments, and the package variables that the reading takes, are together of bulk at most 1048576: NARROWER than '..Said'. Prove '..Said' where nothing that the law and all that it calls make is longer than what came in: it says more and counts as full. Else prove '..UptoSaid'. A law counts once. -/
mutual
def uptoBulk {H : Type} : DataW H → Nat
  | .lit (.string bytes) => bytes.length + 1
  | .lit _ => 1
  | .nil => 1
  | .ptr d => uptoBulk d + 1
  | .slice elems spare => uptoBulkAll elems + uptoBulkAll spare + 1
  | .agg parts => uptoBulkAll parts + 1
  | .iface _ d => uptoBulk d + 1
  | .map entries => uptoBulkEntries entries + 1
  | .held _ => 1
def uptoBulkAll {H : Type} : List (DataW H) → Nat
  | [] => 0
  | d :: r => uptoBulk d + uptoBulkAll r
def uptoBulkEntries {H : Type} : List (Lit × DataW H) → Nat
  | [] => 0
  | x :: r => uptoBulkEntry x + uptoBulkEntries r
def uptoBulkEntry {H : Type} : Lit × DataW H → Nat
  | (.string bytes, d) => bytes.length + uptoBulk d + 1
  | (_, d) => uptoBulk d + 1
 end
def uptoSmall : (H : Type) → List (DataW H) → Bool := fun _ ds => decide (uptoBulkAll ds ≤ 1048576)
def OpenSpec.upto (s : _root_.Go.ChangeSpec) : _root_.Go.OpenSpec := { _root_.Go.OpenSpec.ofChange s with cond := some uptoSmall }

/-- 'laws.FnCorrected', WHERE WHAT IT READS IS OF BULK AT MOST 1048576: true; the input reads as it did. -/
def fnCorrectedUptoRow : OpenClaim := { program := "ytoojddajhalimaa", sum := "f4a528bdb18f7e0c2220db417125db543c327155eadf3cc451ba030157967ce2", func := "loop.example/g01045/laws.FnCorrected", spec := "fnCorrected", apart := false, narrowed := true }
def FnCorrectedUptoSaid : Prop := fnCorrectedUptoRow.holds Try.pinned (OpenSpec.upto fnCorrectedSpec)

/-- 'laws.FnDeadKeys', WHERE WHAT IT READS IS OF BULK AT MOST 1048576: true; the input reads as it did. -/
def fnDeadKeysUptoRow : OpenClaim := { program := "ytoojddajhalimaa", sum := "f4a528bdb18f7e0c2220db417125db543c327155eadf3cc451ba030157967ce2", func := "loop.example/g01045/laws.FnDeadKeys", spec := "fnDeadKeys", apart := false, narrowed := true }
def FnDeadKeysUptoSaid : Prop := fnDeadKeysUptoRow.holds Try.pinned (OpenSpec.upto fnDeadKeysSpec)

/-- 'laws.FnShades', WHERE WHAT IT READS IS OF BULK AT MOST 1048576: true; the input reads as it did. -/
def fnShadesUptoRow : OpenClaim := { program := "ytoojddajhalimaa", sum := "f4a528bdb18f7e0c2220db417125db543c327155eadf3cc451ba030157967ce2", func := "loop.example/g01045/laws.FnShades", spec := "fnShades", apart := false, narrowed := true }
def FnShadesUptoSaid : Prop := fnShadesUptoRow.holds Try.pinned (OpenSpec.upto fnShadesSpec)

/-- 'laws.FnWordStarts', WHERE WHAT IT READS IS OF BULK AT MOST 1048576: true; the input reads as it did. -/
def fnWordStartsUptoRow : OpenClaim := { program := "ytoojddajhalimaa", sum := "f4a528bdb18f7e0c2220db417125db543c327155eadf3cc451ba030157967ce2", func := "loop.example/g01045/laws.FnWordStarts", spec := "fnWordStarts", apart := false, narrowed := true }
def FnWordStartsUptoSaid : Prop := fnWordStartsUptoRow.holds Try.pinned (OpenSpec.upto fnWordStartsSpec)

/-- 'laws.FnRecords', WHERE WHAT IT READS IS OF BULK AT MOST 1048576: true; the input reads as it did. -/
def fnRecordsUptoRow : OpenClaim := { program := "ytoojddajhalimaa", sum := "f4a528bdb18f7e0c2220db417125db543c327155eadf3cc451ba030157967ce2", func := "loop.example/g01045/laws.FnRecords", spec := "fnRecords", inPlace := ["internal/reflectlite.ValueOf", "internal/reflectlite.Swapper", "(internal/reflectlite.Value).Len"], unfollowed := true, recurses := true, apart := false, narrowed := true }
def FnRecordsUptoSaid : Prop := fnRecordsUptoRow.holds Try.pinned (OpenSpec.upto fnRecordsSpec)

/-- 'laws.FnMarks', WHERE WHAT IT READS IS OF BULK AT MOST 1048576: true; the input reads as it did. -/
def fnMarksUptoRow : OpenClaim := { program := "ytoojddajhalimaa", sum := "f4a528bdb18f7e0c2220db417125db543c327155eadf3cc451ba030157967ce2", func := "loop.example/g01045/laws.FnMarks", spec := "fnMarks", apart := false, narrowed := true }
def FnMarksUptoSaid : Prop := fnMarksUptoRow.holds Try.pinned (OpenSpec.upto fnMarksSpec)

/-- 'laws.FnReadings', WHERE WHAT IT READS IS OF BULK AT MOST 1048576: true; the input reads as it did. -/
def fnReadingsUptoRow : OpenClaim := { program := "ytoojddajhalimaa", sum := "f4a528bdb18f7e0c2220db417125db543c327155eadf3cc451ba030157967ce2", func := "loop.example/g01045/laws.FnReadings", spec := "fnReadings", apart := false, narrowed := true }
def FnReadingsUptoSaid : Prop := fnReadingsUptoRow.holds Try.pinned (OpenSpec.upto fnReadingsSpec)

end Rows
end Go.Proofs.Ytoojddajhalimaa
