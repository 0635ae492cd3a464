/-
  DERIVED. GIVEN WITH THE SEED: THE CARDS: each row of YtaihigaafjmpiaaDoorRows.lean that lists a variable, with what it lists TIED to the program's text (the seventh form; the later family's looks); each row that meets fmt, with fmt's text TOLD by the authors' own Lean function (tested against real Go, not proved from fmt's source: count such statements apart). THE CARD IS WHAT COUNTS. Prove the row's statement (the work); the ties are given (YtaihigaafjmpiaaDoorTie.lean); close each card by the builder's one call (the guide's Derived/Test/ToyasCard.lean, 'card_holds'). Laid BY PROGRAM, IN A SANDBOX (cutbox-door.mjs). By AI agents, Wed Nov 11 2026. No macro, syntax, notation, axiom, sorry.
-/
import Derived.Test.YtaihigaafjmpiaaDoorRows
import GoSem.ClaimSeven
namespace Go.Proofs.YtaihigaafjmpiaaDoor
namespace Rows

/-- THE TIED CARD OF 'laws.FnAvoiding'. -/
def fnAvoidingCard : Claim7 := { stood := { row := fnAvoidingRow, standIns := [], harness := (true, "4f9d2a6ac5656da5d20bc1f7a6729e3ab77e80a25d9a52c5246ae36cc6e63536"), looks := false }, kinds := [], alts := [], laidByText := true, laidKinds := [.data, .data, .data], laidTests := true, laidLooks := .later }
def FnAvoidingCardSaid : Prop := Claim7.holds Tryd.pinned (.plain (OpenSpec.ofChange fnAvoidingSpec)) fnAvoidingCard

/-- THE SECOND FORM's CARD OF 'laws.FnAvoiding'. -/
def fnAvoidingUptoCard : Claim7 := { stood := { row := fnAvoidingUptoRow, standIns := [], harness := (true, "4f9d2a6ac5656da5d20bc1f7a6729e3ab77e80a25d9a52c5246ae36cc6e63536"), looks := false }, kinds := [], alts := [], laidByText := true, laidKinds := [.data, .data, .data], laidTests := true, laidLooks := .later }
def FnAvoidingUptoCardSaid : Prop := Claim7.holds Tryd.pinned (.plain (OpenSpec.upto fnAvoidingSpec)) fnAvoidingUptoCard
end Rows
end Go.Proofs.YtaihigaafjmpiaaDoor
