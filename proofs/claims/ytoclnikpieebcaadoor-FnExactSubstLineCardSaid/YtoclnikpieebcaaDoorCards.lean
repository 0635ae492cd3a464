/-
  DERIVED. GIVEN WITH THE SEED: THE CARDS: each row of YtoclnikpieebcaaDoorRows.lean that lists a variable, with what it lists TIED to the program's text (the seventh form; the later family's looks); each row that meets fmt, with fmt's text TOLD by the authors' own Lean function (tested against real Go, not proved from fmt's source: count such statements apart). THE CARD IS WHAT COUNTS. Prove the row's statement (the work); the ties are given (YtoclnikpieebcaaDoorTie.lean); close each card by the builder's one call (the guide's Derived/Test/ToyasCard.lean, 'card_holds'). Laid BY PROGRAM, IN A SANDBOX (cutbox-door.mjs). By AI agents, Wed Nov 11 2026. No macro, syntax, notation, axiom, sorry.
-/
import Derived.Test.YtoclnikpieebcaaDoorRows
import GoSem.ClaimSeven
namespace Go.Proofs.YtoclnikpieebcaaDoor
namespace Rows

/-- THE TIED CARD OF 'laws.FnExactSubstLine'. -/
def fnExactSubstLineCard : Claim7 := { stood := { row := fnExactSubstLineRow, standIns := [], harness := (true, "aea4d440dc0e4f8f178953a4607ebdaac5c803a7edac65f82d729a433c48f801"), looks := false }, kinds := [], alts := [], laidByText := true, laidKinds := [.data, .data, .data], laidTests := true, laidLooks := .later }
def FnExactSubstLineCardSaid : Prop := Claim7.holds Tryd.pinned (.plain (OpenSpec.ofChange fnExactSubstLineSpec)) fnExactSubstLineCard

/-- THE SECOND FORM's CARD OF 'laws.FnExactSubstLine'. -/
def fnExactSubstLineUptoCard : Claim7 := { stood := { row := fnExactSubstLineUptoRow, standIns := [], harness := (true, "aea4d440dc0e4f8f178953a4607ebdaac5c803a7edac65f82d729a433c48f801"), looks := false }, kinds := [], alts := [], laidByText := true, laidKinds := [.data, .data, .data], laidTests := true, laidLooks := .later }
def FnExactSubstLineUptoCardSaid : Prop := Claim7.holds Tryd.pinned (.plain (OpenSpec.upto fnExactSubstLineSpec)) fnExactSubstLineUptoCard
end Rows
end Go.Proofs.YtoclnikpieebcaaDoor
