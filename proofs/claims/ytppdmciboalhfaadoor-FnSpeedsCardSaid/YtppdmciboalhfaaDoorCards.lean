/-
  DERIVED. GIVEN WITH THE SEED: THE CARDS: each row of YtppdmciboalhfaaDoorRows.lean that lists a variable, with what it lists TIED to the program's text (the seventh form; the later family's looks); each row that meets fmt, with fmt's text TOLD by the authors' own Lean function (tested against real Go, not proved from fmt's source: count such statements apart). THE CARD IS WHAT COUNTS. Prove the row's statement (the work); the ties are given (YtppdmciboalhfaaDoorTie.lean); close each card by the builder's one call (the guide's Derived/Test/ToyasCard.lean, 'card_holds'). Laid BY PROGRAM, IN A SANDBOX (cutbox-door.mjs). By AI agents, Wed Nov 11 2026. No macro, syntax, notation, axiom, sorry.
-/
import Derived.Test.YtppdmciboalhfaaDoorRows
import GoSem.ClaimSeven
namespace Go.Proofs.YtppdmciboalhfaaDoor
namespace Rows

/-- THE TIED CARD OF 'laws.FnLessonOrders'. -/
def fnLessonOrdersCard : Claim7 := { stood := { row := fnLessonOrdersRow, standIns := [], harness := (true, "276b1a0abde2472d7e9528c0ba1fcc6592bc0707e31d7e799958ba3fadeed37a"), looks := false }, kinds := [], alts := [], laidByText := true, laidKinds := [.data, .data, .data], laidTests := true, laidLooks := .later }
def FnLessonOrdersCardSaid : Prop := Claim7.holds Tryd.pinned (.plain (OpenSpec.ofChange fnLessonOrdersSpec)) fnLessonOrdersCard

/-- THE TIED CARD OF 'laws.FnSpeeds'. -/
def fnSpeedsCard : Claim7 := { stood := { row := fnSpeedsRow, standIns := [], harness := (true, "276b1a0abde2472d7e9528c0ba1fcc6592bc0707e31d7e799958ba3fadeed37a"), looks := false }, kinds := [], alts := [], laidByText := true, laidKinds := [.data, .data, .data], laidTests := true, laidLooks := .later }
def FnSpeedsCardSaid : Prop := Claim7.holds Tryd.pinned (.plain (OpenSpec.ofChange fnSpeedsSpec)) fnSpeedsCard

/-- THE SECOND FORM's CARD OF 'laws.FnLessonOrders'. -/
def fnLessonOrdersUptoCard : Claim7 := { stood := { row := fnLessonOrdersUptoRow, standIns := [], harness := (true, "276b1a0abde2472d7e9528c0ba1fcc6592bc0707e31d7e799958ba3fadeed37a"), looks := false }, kinds := [], alts := [], laidByText := true, laidKinds := [.data, .data, .data], laidTests := true, laidLooks := .later }
def FnLessonOrdersUptoCardSaid : Prop := Claim7.holds Tryd.pinned (.plain (OpenSpec.upto fnLessonOrdersSpec)) fnLessonOrdersUptoCard

/-- THE SECOND FORM's CARD OF 'laws.FnSpeeds'. -/
def fnSpeedsUptoCard : Claim7 := { stood := { row := fnSpeedsUptoRow, standIns := [], harness := (true, "276b1a0abde2472d7e9528c0ba1fcc6592bc0707e31d7e799958ba3fadeed37a"), looks := false }, kinds := [], alts := [], laidByText := true, laidKinds := [.data, .data, .data], laidTests := true, laidLooks := .later }
def FnSpeedsUptoCardSaid : Prop := Claim7.holds Tryd.pinned (.plain (OpenSpec.upto fnSpeedsSpec)) fnSpeedsUptoCard
end Rows
end Go.Proofs.YtppdmciboalhfaaDoor
