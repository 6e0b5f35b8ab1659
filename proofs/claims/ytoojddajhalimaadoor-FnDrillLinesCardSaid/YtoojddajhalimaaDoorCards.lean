/-
  DERIVED. GIVEN WITH THE SEED: THE CARDS: each row of YtoojddajhalimaaDoorRows.lean that lists a variable, with what it lists TIED to the program's text (the seventh form; the later family's looks); each row that meets fmt, with fmt's text TOLD by the authors' own Lean function (tested against real Go, not proved from fmt's source: count such statements apart). THE CARD IS WHAT COUNTS. Prove the row's statement (the work); the ties are given (YtoojddajhalimaaDoorTie.lean); close each card by the builder's one call (the guide's Derived/Test/ToyasCard.lean, 'card_holds'). Laid BY PROGRAM, IN A SANDBOX (cutbox-door.mjs). By AI agents, Wed Nov 11 2026. No macro, syntax, notation, axiom, sorry.
-/
import Derived.Test.YtoojddajhalimaaDoorRows
import GoSem.ClaimSeven
namespace Go.Proofs.YtoojddajhalimaaDoor
namespace Rows

/-- THE TIED CARD OF 'laws.FnRibbonSpots'. -/
def fnRibbonSpotsCard : Claim7 := { stood := { row := fnRibbonSpotsRow, standIns := [], harness := (true, "4c45ab27c424e4050b23ce07f77c061cca6e8f959edadcbe264d1fd77b760ffd"), looks := false }, kinds := [], alts := [], laidByText := true, laidKinds := [.data, .data, .data], laidTests := true, laidLooks := .later }
def FnRibbonSpotsCardSaid : Prop := Claim7.holds Tryd.pinned (.plain (OpenSpec.ofChange fnRibbonSpotsSpec)) fnRibbonSpotsCard

/-- THE TIED CARD OF 'laws.FnDrillLines'. -/
def fnDrillLinesCard : Claim7 := { stood := { row := fnDrillLinesRow, standIns := [], harness := (true, "4c45ab27c424e4050b23ce07f77c061cca6e8f959edadcbe264d1fd77b760ffd"), looks := false }, kinds := [], alts := [], laidByText := true, laidKinds := [.data, .data, .data], laidTests := true, laidLooks := .later }
def FnDrillLinesCardSaid : Prop := Claim7.holds Tryd.pinned (.plain (OpenSpec.ofChange fnDrillLinesSpec)) fnDrillLinesCard

/-- THE SECOND FORM's CARD OF 'laws.FnRibbonSpots'. -/
def fnRibbonSpotsUptoCard : Claim7 := { stood := { row := fnRibbonSpotsUptoRow, standIns := [], harness := (true, "4c45ab27c424e4050b23ce07f77c061cca6e8f959edadcbe264d1fd77b760ffd"), looks := false }, kinds := [], alts := [], laidByText := true, laidKinds := [.data, .data, .data], laidTests := true, laidLooks := .later }
def FnRibbonSpotsUptoCardSaid : Prop := Claim7.holds Tryd.pinned (.plain (OpenSpec.upto fnRibbonSpotsSpec)) fnRibbonSpotsUptoCard

/-- THE SECOND FORM's CARD OF 'laws.FnDrillLines'. -/
def fnDrillLinesUptoCard : Claim7 := { stood := { row := fnDrillLinesUptoRow, standIns := [], harness := (true, "4c45ab27c424e4050b23ce07f77c061cca6e8f959edadcbe264d1fd77b760ffd"), looks := false }, kinds := [], alts := [], laidByText := true, laidKinds := [.data, .data, .data], laidTests := true, laidLooks := .later }
def FnDrillLinesUptoCardSaid : Prop := Claim7.holds Tryd.pinned (.plain (OpenSpec.upto fnDrillLinesSpec)) fnDrillLinesUptoCard
end Rows
end Go.Proofs.YtoojddajhalimaaDoor
