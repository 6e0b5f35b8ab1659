/-
  DERIVED. GIVEN WITH THE SEED: THE CARDS: each row of YtbgngihmpdneaaaDoorRows.lean that lists a variable, with what it lists TIED to the program's text (the seventh form; the later family's looks); each row that meets fmt, with fmt's text TOLD by the authors' own Lean function (tested against real Go, not proved from fmt's source: count such statements apart). THE CARD IS WHAT COUNTS. Prove the row's statement (the work); the ties are given (YtbgngihmpdneaaaDoorTie.lean); close each card by the builder's one call (the guide's Derived/Test/ToyasCard.lean, 'card_holds'). Laid BY PROGRAM, IN A SANDBOX (cutbox-door.mjs). By AI agents, Wed Nov 11 2026. No macro, syntax, notation, axiom, sorry.
-/
import Derived.Test.YtbgngihmpdneaaaDoorRows
import GoSem.ClaimSeven
namespace Go.Proofs.YtbgngihmpdneaaaDoor
namespace Rows

/-- THE TIED CARD OF 'laws.FnLessonOrders'. -/
def fnLessonOrdersCard : Claim7 := { stood := { row := fnLessonOrdersRow, standIns := [], harness := (true, "0e876e3cecd0d9a50edce6823ca8ffe0a1ec53fb1debe1bfd8868aff6f664295"), looks := false }, kinds := [], alts := [], laidByText := true, laidKinds := [.data, .data, .data], laidTests := true, laidLooks := .later }
def FnLessonOrdersCardSaid : Prop := Claim7.holds Tryd.pinned (.plain (OpenSpec.ofChange fnLessonOrdersSpec)) fnLessonOrdersCard

/-- THE TIED CARD OF 'laws.FnRankings'. -/
def fnRankingsCard : Claim7 := { stood := { row := fnRankingsRow, standIns := [], harness := (true, "0e876e3cecd0d9a50edce6823ca8ffe0a1ec53fb1debe1bfd8868aff6f664295"), looks := false }, kinds := [], alts := [], laidByText := true, laidKinds := [.data, .data, .data], laidTests := true, laidLooks := .later }
def FnRankingsCardSaid : Prop := Claim7.holds Tryd.pinned (.plain (OpenSpec.ofChange fnRankingsSpec)) fnRankingsCard

/-- THE SECOND FORM's CARD OF 'laws.FnLessonOrders'. -/
def fnLessonOrdersUptoCard : Claim7 := { stood := { row := fnLessonOrdersUptoRow, standIns := [], harness := (true, "0e876e3cecd0d9a50edce6823ca8ffe0a1ec53fb1debe1bfd8868aff6f664295"), looks := false }, kinds := [], alts := [], laidByText := true, laidKinds := [.data, .data, .data], laidTests := true, laidLooks := .later }
def FnLessonOrdersUptoCardSaid : Prop := Claim7.holds Tryd.pinned (.plain (OpenSpec.upto fnLessonOrdersSpec)) fnLessonOrdersUptoCard

/-- THE SECOND FORM's CARD OF 'laws.FnRankings'. -/
def fnRankingsUptoCard : Claim7 := { stood := { row := fnRankingsUptoRow, standIns := [], harness := (true, "0e876e3cecd0d9a50edce6823ca8ffe0a1ec53fb1debe1bfd8868aff6f664295"), looks := false }, kinds := [], alts := [], laidByText := true, laidKinds := [.data, .data, .data], laidTests := true, laidLooks := .later }
def FnRankingsUptoCardSaid : Prop := Claim7.holds Tryd.pinned (.plain (OpenSpec.upto fnRankingsSpec)) fnRankingsUptoCard
end Rows
end Go.Proofs.YtbgngihmpdneaaaDoor
