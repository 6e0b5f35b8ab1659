/-
  DERIVED. GIVEN WITH THE SEED: THE CARDS: each row of YtdnnnakjhehfkaaDoorRows.lean that lists a variable, with what it lists TIED to the program's text (the seventh form; the later family's looks); each row that meets fmt, with fmt's text TOLD by the authors' own Lean function (tested against real Go, not proved from fmt's source: count such statements apart). THE CARD IS WHAT COUNTS. Prove the row's statement (the work); the ties are given (YtdnnnakjhehfkaaDoorTie.lean); close each card by the builder's one call (the guide's Derived/Test/ToyasCard.lean, 'card_holds'). Laid BY PROGRAM, IN A SANDBOX (cutbox-door.mjs). By AI agents, Wed Nov 11 2026. No macro, syntax, notation, axiom, sorry.
-/
import Derived.Test.YtdnnnakjhehfkaaDoorRows
import GoSem.ClaimSeven
namespace Go.Proofs.YtdnnnakjhehfkaaDoor
namespace Rows

/-- THE TIED CARD OF 'laws.FnExactPartText'. -/
def fnExactPartTextCard : Claim7 := { stood := { row := fnExactPartTextRow, standIns := [], harness := (true, "6d9ba73c7110dd9b1db66a310efd54a9ea7ddffff12b6c448c25ac2c89ca69d3"), looks := false }, kinds := [], alts := [], laidByText := true, laidKinds := [.data, .data, .data], laidTests := true, laidLooks := .later }
def FnExactPartTextCardSaid : Prop := Claim7.holds Tryd.pinned (.plain (OpenSpec.ofChange fnExactPartTextSpec)) fnExactPartTextCard

/-- THE TIED CARD OF 'laws.FnReplacements'. -/
def fnReplacementsCard : Claim7 := { stood := { row := fnReplacementsRow, standIns := [], harness := (true, "6d9ba73c7110dd9b1db66a310efd54a9ea7ddffff12b6c448c25ac2c89ca69d3"), looks := false }, kinds := [], alts := [], laidByText := true, laidKinds := [.data, .data, .data], laidTests := true, laidLooks := .later }
def FnReplacementsCardSaid : Prop := Claim7.holds Tryd.pinned (.plain (OpenSpec.ofChange fnReplacementsSpec)) fnReplacementsCard

/-- THE SECOND FORM's CARD OF 'laws.FnExactPartText'. -/
def fnExactPartTextUptoCard : Claim7 := { stood := { row := fnExactPartTextUptoRow, standIns := [], harness := (true, "6d9ba73c7110dd9b1db66a310efd54a9ea7ddffff12b6c448c25ac2c89ca69d3"), looks := false }, kinds := [], alts := [], laidByText := true, laidKinds := [.data, .data, .data], laidTests := true, laidLooks := .later }
def FnExactPartTextUptoCardSaid : Prop := Claim7.holds Tryd.pinned (.plain (OpenSpec.upto fnExactPartTextSpec)) fnExactPartTextUptoCard

/-- THE SECOND FORM's CARD OF 'laws.FnReplacements'. -/
def fnReplacementsUptoCard : Claim7 := { stood := { row := fnReplacementsUptoRow, standIns := [], harness := (true, "6d9ba73c7110dd9b1db66a310efd54a9ea7ddffff12b6c448c25ac2c89ca69d3"), looks := false }, kinds := [], alts := [], laidByText := true, laidKinds := [.data, .data, .data], laidTests := true, laidLooks := .later }
def FnReplacementsUptoCardSaid : Prop := Claim7.holds Tryd.pinned (.plain (OpenSpec.upto fnReplacementsSpec)) fnReplacementsUptoCard
end Rows
end Go.Proofs.YtdnnnakjhehfkaaDoor
