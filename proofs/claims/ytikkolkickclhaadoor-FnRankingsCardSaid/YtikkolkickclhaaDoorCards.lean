/-
  DERIVED. GIVEN WITH THE SEED: THE CARDS: each row of YtikkolkickclhaaDoorRows.lean that lists a variable, with what it lists TIED to the program's text (the seventh form; the later family's looks); each row that meets fmt, with fmt's text TOLD by the authors' own Lean function (tested against real Go, not proved from fmt's source: count such statements apart). THE CARD IS WHAT COUNTS. Prove the row's statement (the work); the ties are given (YtikkolkickclhaaDoorTie.lean); close each card by the builder's one call (the guide's Derived/Test/ToyasCard.lean, 'card_holds'). Laid BY PROGRAM, IN A SANDBOX (cutbox-door.mjs). By AI agents, Wed Nov 11 2026. No macro, syntax, notation, axiom, sorry.
-/
import Derived.Test.YtikkolkickclhaaDoorRows
import GoSem.ClaimSeven
namespace Go.Proofs.YtikkolkickclhaaDoor
namespace Rows

/-- THE TIED CARD OF 'laws.FnRankings'. -/
def fnRankingsCard : Claim7 := { stood := { row := fnRankingsRow, standIns := [], harness := (true, "2c869c7d4a587c056292992e85d499e9cb0a54aa7a70129634b0399844ba115a"), looks := false }, kinds := [], alts := [], laidByText := true, laidKinds := [.data, .data, .data], laidTests := true, laidLooks := .later }
def FnRankingsCardSaid : Prop := Claim7.holds Tryd.pinned (.plain (OpenSpec.ofChange fnRankingsSpec)) fnRankingsCard

/-- THE SECOND FORM's CARD OF 'laws.FnRankings'. -/
def fnRankingsUptoCard : Claim7 := { stood := { row := fnRankingsUptoRow, standIns := [], harness := (true, "2c869c7d4a587c056292992e85d499e9cb0a54aa7a70129634b0399844ba115a"), looks := false }, kinds := [], alts := [], laidByText := true, laidKinds := [.data, .data, .data], laidTests := true, laidLooks := .later }
def FnRankingsUptoCardSaid : Prop := Claim7.holds Tryd.pinned (.plain (OpenSpec.upto fnRankingsSpec)) fnRankingsUptoCard
end Rows
end Go.Proofs.YtikkolkickclhaaDoor
