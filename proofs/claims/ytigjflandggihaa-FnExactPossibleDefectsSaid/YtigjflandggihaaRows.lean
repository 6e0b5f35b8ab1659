/-
  No cell of these rows narrows 'for every input' (looked for: loops, veiled, ifaces, maps, wideKeys, modest, calm, conditions, laid).
  DERIVED. THE GIVEN ROWS OF THIS SEAT. 7 by the template 'for every input the law returns true; each argument reads behind the call as it read before'; 0 by the template 'total and deterministic' (their statements: YtigjflandggihaaTotals.lean).
  GIVEN WITH THE SEED: the statements are not yours to turn. If you find one false, say at which input.
  Laid BY PROGRAM, IN A SANDBOX (cutbox-rows.mjs): the forced cells as the released guide's own fill.sh prints them over the translation 215890c87a8c4654… (all of the seat's roots in one cut). By AI agents, Wed Nov 11 2026. No macro, syntax, notation, axiom, sorry.
-/
import Derived.Test.YtigjflandggihaaChecked
import GoSem.Claim
import GoSem.ClaimJoined
import GoSem.ClaimMapViews
import Derived.JoinedTies
import Derived.KernelRfl
namespace Go.Proofs.Ytigjflandggihaa
/- THE CELL 'sum', in the pinned program and in every row, IS THE sha256 OF THE DUMP (.gsa) THAT YtigjflandggihaaProg.lean LOADS. Nothing in Lean hashes anything: it is a label: what it is worth is what the hold of that sum in a sandbox is worth. -/
noncomputable def Try.pinned : Pinned := { name := "ytigjflandggihaa", sum := "215890c87a8c4654967e7aff32b9d9cc8876ecea8da02be4317201f4521c30c0", checked := Try.checked }
namespace Rows
def none {H : Type} : Left H := { results := [], args := [] }

/-- 'laws.FnExactHirePrice': WHATEVER THE INPUT: true; the input reads as it did. -/
def fnExactHirePriceSpec : ChangeSpec := { name := "fnExactHirePrice", fn := fun _ => fun
  | [d1, d2, d3, d4] => { results := [.lit (.bool true)], args := [d1, d2, d3, d4] }
  | _ => none }
def fnExactHirePriceRow : OpenClaim := { program := "ytigjflandggihaa", sum := "215890c87a8c4654967e7aff32b9d9cc8876ecea8da02be4317201f4521c30c0", func := "loop.example/g01045/laws.FnExactHirePrice", spec := "fnExactHirePrice", apart := false }
def FnExactHirePriceSaid : Prop := fnExactHirePriceRow.holds Try.pinned (OpenSpec.ofChange fnExactHirePriceSpec)

/-- ITS FALSE NEIGHBOUR: 'it returns false'. Refute it at one input. -/
def fnExactHirePriceWrong : ChangeSpec := { name := "fnExactHirePrice", fn := fun _ => fun
  | [d1, d2, d3, d4] => { results := [.lit (.bool false)], args := [d1, d2, d3, d4] }
  | _ => none }
def FnExactHirePriceWrongFalsely : Prop := fnExactHirePriceRow.holds Try.pinned (OpenSpec.ofChange fnExactHirePriceWrong)

/-- 'laws.FnExactSameHires': WHATEVER THE INPUT: true; the input reads as it did. -/
def fnExactSameHiresSpec : ChangeSpec := { name := "fnExactSameHires", fn := fun _ => fun
  | [d1, d2] => { results := [.lit (.bool true)], args := [d1, d2] }
  | _ => none }
def fnExactSameHiresRow : OpenClaim := { program := "ytigjflandggihaa", sum := "215890c87a8c4654967e7aff32b9d9cc8876ecea8da02be4317201f4521c30c0", func := "loop.example/g01045/laws.FnExactSameHires", spec := "fnExactSameHires", apart := false }
def FnExactSameHiresSaid : Prop := fnExactSameHiresRow.holds Try.pinned (OpenSpec.ofChange fnExactSameHiresSpec)

/-- ITS FALSE NEIGHBOUR: 'it returns false'. Refute it at one input. -/
def fnExactSameHiresWrong : ChangeSpec := { name := "fnExactSameHires", fn := fun _ => fun
  | [d1, d2] => { results := [.lit (.bool false)], args := [d1, d2] }
  | _ => none }
def FnExactSameHiresWrongFalsely : Prop := fnExactSameHiresRow.holds Try.pinned (OpenSpec.ofChange fnExactSameHiresWrong)

/-- 'laws.FnExactAreTold': WHATEVER THE INPUT: true; the input reads as it did. -/
def fnExactAreToldSpec : ChangeSpec := { name := "fnExactAreTold", fn := fun _ => fun
  | [d1, d2] => { results := [.lit (.bool true)], args := [d1, d2] }
  | _ => none }
def fnExactAreToldRow : OpenClaim := { program := "ytigjflandggihaa", sum := "215890c87a8c4654967e7aff32b9d9cc8876ecea8da02be4317201f4521c30c0", func := "loop.example/g01045/laws.FnExactAreTold", spec := "fnExactAreTold", apart := false }
def FnExactAreToldSaid : Prop := fnExactAreToldRow.holds Try.pinned (OpenSpec.ofChange fnExactAreToldSpec)

/-- ITS FALSE NEIGHBOUR: 'it returns false'. Refute it at one input. -/
def fnExactAreToldWrong : ChangeSpec := { name := "fnExactAreTold", fn := fun _ => fun
  | [d1, d2] => { results := [.lit (.bool false)], args := [d1, d2] }
  | _ => none }
def FnExactAreToldWrongFalsely : Prop := fnExactAreToldRow.holds Try.pinned (OpenSpec.ofChange fnExactAreToldWrong)

/-- 'laws.FnExactSameSigns': WHATEVER THE INPUT: true; the input reads as it did. -/
def fnExactSameSignsSpec : ChangeSpec := { name := "fnExactSameSigns", fn := fun _ => fun
  | [d1, d2] => { results := [.lit (.bool true)], args := [d1, d2] }
  | _ => none }
def fnExactSameSignsRow : OpenClaim := { program := "ytigjflandggihaa", sum := "215890c87a8c4654967e7aff32b9d9cc8876ecea8da02be4317201f4521c30c0", func := "loop.example/g01045/laws.FnExactSameSigns", spec := "fnExactSameSigns", apart := false }
def FnExactSameSignsSaid : Prop := fnExactSameSignsRow.holds Try.pinned (OpenSpec.ofChange fnExactSameSignsSpec)

/-- ITS FALSE NEIGHBOUR: 'it returns false'. Refute it at one input. -/
def fnExactSameSignsWrong : ChangeSpec := { name := "fnExactSameSigns", fn := fun _ => fun
  | [d1, d2] => { results := [.lit (.bool false)], args := [d1, d2] }
  | _ => none }
def FnExactSameSignsWrongFalsely : Prop := fnExactSameSignsRow.holds Try.pinned (OpenSpec.ofChange fnExactSameSignsWrong)

/-- 'laws.FnExactDaysUntil': WHATEVER THE INPUT: true; the input reads as it did. -/
def fnExactDaysUntilSpec : ChangeSpec := { name := "fnExactDaysUntil", fn := fun _ => fun
  | [d1, d2] => { results := [.lit (.bool true)], args := [d1, d2] }
  | _ => none }
def fnExactDaysUntilRow : OpenClaim := { program := "ytigjflandggihaa", sum := "215890c87a8c4654967e7aff32b9d9cc8876ecea8da02be4317201f4521c30c0", func := "loop.example/g01045/laws.FnExactDaysUntil", spec := "fnExactDaysUntil", apart := false }
def FnExactDaysUntilSaid : Prop := fnExactDaysUntilRow.holds Try.pinned (OpenSpec.ofChange fnExactDaysUntilSpec)

/-- ITS FALSE NEIGHBOUR: 'it returns false'. Refute it at one input. -/
def fnExactDaysUntilWrong : ChangeSpec := { name := "fnExactDaysUntil", fn := fun _ => fun
  | [d1, d2] => { results := [.lit (.bool false)], args := [d1, d2] }
  | _ => none }
def FnExactDaysUntilWrongFalsely : Prop := fnExactDaysUntilRow.holds Try.pinned (OpenSpec.ofChange fnExactDaysUntilWrong)

/-- 'laws.FnExactLikeliestDefect': WHATEVER THE INPUT: true; the input reads as it did. -/
def fnExactLikeliestDefectSpec : ChangeSpec := { name := "fnExactLikeliestDefect", fn := fun _ => fun
  | [d1, d2, d3] => { results := [.lit (.bool true)], args := [d1, d2, d3] }
  | _ => none }
def fnExactLikeliestDefectRow : OpenClaim := { program := "ytigjflandggihaa", sum := "215890c87a8c4654967e7aff32b9d9cc8876ecea8da02be4317201f4521c30c0", func := "loop.example/g01045/laws.FnExactLikeliestDefect", spec := "fnExactLikeliestDefect", apart := false }
def FnExactLikeliestDefectSaid : Prop := fnExactLikeliestDefectRow.holds Try.pinned (OpenSpec.ofChange fnExactLikeliestDefectSpec)

/-- ITS FALSE NEIGHBOUR: 'it returns false'. Refute it at one input. -/
def fnExactLikeliestDefectWrong : ChangeSpec := { name := "fnExactLikeliestDefect", fn := fun _ => fun
  | [d1, d2, d3] => { results := [.lit (.bool false)], args := [d1, d2, d3] }
  | _ => none }
def FnExactLikeliestDefectWrongFalsely : Prop := fnExactLikeliestDefectRow.holds Try.pinned (OpenSpec.ofChange fnExactLikeliestDefectWrong)

/-- 'laws.FnExactPossibleDefects': WHATEVER THE INPUT: true; the input reads as it did. -/
def fnExactPossibleDefectsSpec : ChangeSpec := { name := "fnExactPossibleDefects", fn := fun _ => fun
  | [d1, d2, d3] => { results := [.lit (.bool true)], args := [d1, d2, d3] }
  | _ => none }
def fnExactPossibleDefectsRow : OpenClaim := { program := "ytigjflandggihaa", sum := "215890c87a8c4654967e7aff32b9d9cc8876ecea8da02be4317201f4521c30c0", func := "loop.example/g01045/laws.FnExactPossibleDefects", spec := "fnExactPossibleDefects", apart := false }
def FnExactPossibleDefectsSaid : Prop := fnExactPossibleDefectsRow.holds Try.pinned (OpenSpec.ofChange fnExactPossibleDefectsSpec)

/-- ITS FALSE NEIGHBOUR: 'it returns false'. Refute it at one input. -/
def fnExactPossibleDefectsWrong : ChangeSpec := { name := "fnExactPossibleDefects", fn := fun _ => fun
  | [d1, d2, d3] => { results := [.lit (.bool false)], args := [d1, d2, d3] }
  | _ => none }
def FnExactPossibleDefectsWrongFalsely : Prop := fnExactPossibleDefectsRow.holds Try.pinned (OpenSpec.ofChange fnExactPossibleDefectsWrong)

/- THE SECOND FORM. 'bulk': how many values and letters a reading holds, each counted each time it is reached (what is shared counts as often as it is met; a slice's spare places count too). A statement '..UptoSaid' is the law's where the arguments, and the package variables that the reading takes, are together of bulk at most 1048576: NARROWER than '..Said'. Prove '..Said' where nothing that the law and all that it calls make is longer than what came in: it says more and counts as full. Else prove '..UptoSaid'. A law counts once. -/
mutual
def uptoBulk {H : Type} : DataW H → Nat
  | .lit (.string bytes) => bytes.length + 1
  | .lit _ => 1
  | .nil => 1
  | .ptr d => uptoBulk d + 1
  | .slice elems spare => uptoBulkAll elems + uptoBulkAll spare + 1
  | .agg parts => uptoBulkAll parts + 1
  | .iface _ d => uptoBulk d + 1
  | .map entries => uptoBulkEntries entries + 1
  | .held _ => 1
def uptoBulkAll {H : Type} : List (DataW H) → Nat
  | [] => 0
  | d :: r => uptoBulk d + uptoBulkAll r
def uptoBulkEntries {H : Type} : List (Lit × DataW H) → Nat
  | [] => 0
  | x :: r => uptoBulkEntry x + uptoBulkEntries r
def uptoBulkEntry {H : Type} : Lit × DataW H → Nat
  | (.string bytes, d) => bytes.length + uptoBulk d + 1
  | (_, d) => uptoBulk d + 1
 end
def uptoSmall : (H : Type) → List (DataW H) → Bool := fun _ ds => decide (uptoBulkAll ds ≤ 1048576)
def OpenSpec.upto (s : _root_.Go.ChangeSpec) : _root_.Go.OpenSpec := { _root_.Go.OpenSpec.ofChange s with cond := some uptoSmall }

/-- 'laws.FnExactHirePrice', WHERE WHAT IT READS IS OF BULK AT MOST 1048576: true; the input reads as it did. -/
def fnExactHirePriceUptoRow : OpenClaim := { program := "ytigjflandggihaa", sum := "215890c87a8c4654967e7aff32b9d9cc8876ecea8da02be4317201f4521c30c0", func := "loop.example/g01045/laws.FnExactHirePrice", spec := "fnExactHirePrice", apart := false, narrowed := true }
def FnExactHirePriceUptoSaid : Prop := fnExactHirePriceUptoRow.holds Try.pinned (OpenSpec.upto fnExactHirePriceSpec)

/-- 'laws.FnExactSameHires', WHERE WHAT IT READS IS OF BULK AT MOST 1048576: true; the input reads as it did. -/
def fnExactSameHiresUptoRow : OpenClaim := { program := "ytigjflandggihaa", sum := "215890c87a8c4654967e7aff32b9d9cc8876ecea8da02be4317201f4521c30c0", func := "loop.example/g01045/laws.FnExactSameHires", spec := "fnExactSameHires", apart := false, narrowed := true }
def FnExactSameHiresUptoSaid : Prop := fnExactSameHiresUptoRow.holds Try.pinned (OpenSpec.upto fnExactSameHiresSpec)

/-- 'laws.FnExactAreTold', WHERE WHAT IT READS IS OF BULK AT MOST 1048576: true; the input reads as it did. -/
def fnExactAreToldUptoRow : OpenClaim := { program := "ytigjflandggihaa", sum := "215890c87a8c4654967e7aff32b9d9cc8876ecea8da02be4317201f4521c30c0", func := "loop.example/g01045/laws.FnExactAreTold", spec := "fnExactAreTold", apart := false, narrowed := true }
def FnExactAreToldUptoSaid : Prop := fnExactAreToldUptoRow.holds Try.pinned (OpenSpec.upto fnExactAreToldSpec)

/-- 'laws.FnExactSameSigns', WHERE WHAT IT READS IS OF BULK AT MOST 1048576: true; the input reads as it did. -/
def fnExactSameSignsUptoRow : OpenClaim := { program := "ytigjflandggihaa", sum := "215890c87a8c4654967e7aff32b9d9cc8876ecea8da02be4317201f4521c30c0", func := "loop.example/g01045/laws.FnExactSameSigns", spec := "fnExactSameSigns", apart := false, narrowed := true }
def FnExactSameSignsUptoSaid : Prop := fnExactSameSignsUptoRow.holds Try.pinned (OpenSpec.upto fnExactSameSignsSpec)

/-- 'laws.FnExactDaysUntil', WHERE WHAT IT READS IS OF BULK AT MOST 1048576: true; the input reads as it did. -/
def fnExactDaysUntilUptoRow : OpenClaim := { program := "ytigjflandggihaa", sum := "215890c87a8c4654967e7aff32b9d9cc8876ecea8da02be4317201f4521c30c0", func := "loop.example/g01045/laws.FnExactDaysUntil", spec := "fnExactDaysUntil", apart := false, narrowed := true }
def FnExactDaysUntilUptoSaid : Prop := fnExactDaysUntilUptoRow.holds Try.pinned (OpenSpec.upto fnExactDaysUntilSpec)

/-- 'laws.FnExactLikeliestDefect', WHERE WHAT IT READS IS OF BULK AT MOST 1048576: true; the input reads as it did. -/
def fnExactLikeliestDefectUptoRow : OpenClaim := { program := "ytigjflandggihaa", sum := "215890c87a8c4654967e7aff32b9d9cc8876ecea8da02be4317201f4521c30c0", func := "loop.example/g01045/laws.FnExactLikeliestDefect", spec := "fnExactLikeliestDefect", apart := false, narrowed := true }
def FnExactLikeliestDefectUptoSaid : Prop := fnExactLikeliestDefectUptoRow.holds Try.pinned (OpenSpec.upto fnExactLikeliestDefectSpec)

/-- 'laws.FnExactPossibleDefects', WHERE WHAT IT READS IS OF BULK AT MOST 1048576: true; the input reads as it did. -/
def fnExactPossibleDefectsUptoRow : OpenClaim := { program := "ytigjflandggihaa", sum := "215890c87a8c4654967e7aff32b9d9cc8876ecea8da02be4317201f4521c30c0", func := "loop.example/g01045/laws.FnExactPossibleDefects", spec := "fnExactPossibleDefects", apart := false, narrowed := true }
def FnExactPossibleDefectsUptoSaid : Prop := fnExactPossibleDefectsUptoRow.holds Try.pinned (OpenSpec.upto fnExactPossibleDefectsSpec)

end Rows
end Go.Proofs.Ytigjflandggihaa
