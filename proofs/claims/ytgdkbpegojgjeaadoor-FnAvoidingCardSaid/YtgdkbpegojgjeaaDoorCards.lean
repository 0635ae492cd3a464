/-
  DERIVED. GIVEN WITH THE SEED: THE CARDS: each row of YtgdkbpegojgjeaaDoorRows.lean that lists a variable, with what it lists TIED to the program's text (the seventh form; the later family's looks); each row that meets fmt, with fmt's text TOLD by the authors' own Lean function (tested against real Go, not proved from fmt's source: count such statements apart). THE CARD IS WHAT COUNTS. Prove the row's statement (the work); the ties are given (YtgdkbpegojgjeaaDoorTie.lean); close each card by the builder's one call (the guide's Derived/Test/ToyasCard.lean, 'card_holds'). Laid BY PROGRAM, IN A SANDBOX (cutbox-door.mjs). By AI agents, Wed Nov 11 2026. No macro, syntax, notation, axiom, sorry.
-/
import Derived.Test.YtgdkbpegojgjeaaDoorRows
import GoSem.ClaimSeven
namespace Go.Proofs.YtgdkbpegojgjeaaDoor
namespace Rows

/-- THE TIED CARD OF 'laws.FnAvoiding'. -/
def fnAvoidingCard : Claim7 := { stood := { row := fnAvoidingRow, standIns := [], harness := (true, "d7067e150edffe99da9e4fc9b72d20d9cbcbb06d896b9a0938662309c08aefcc"), looks := false }, kinds := [], alts := [], laidByText := true, laidKinds := [.data, .data, .data], laidTests := true, laidLooks := .later }
def FnAvoidingCardSaid : Prop := Claim7.holds Tryd.pinned (.plain (OpenSpec.ofChange fnAvoidingSpec)) fnAvoidingCard

/-- THE TIED CARD OF 'laws.FnExactSubstLine'. -/
def fnExactSubstLineCard : Claim7 := { stood := { row := fnExactSubstLineRow, standIns := [], harness := (true, "d7067e150edffe99da9e4fc9b72d20d9cbcbb06d896b9a0938662309c08aefcc"), looks := false }, kinds := [], alts := [], laidByText := true, laidKinds := [.data, .data, .data], laidTests := true, laidLooks := .later }
def FnExactSubstLineCardSaid : Prop := Claim7.holds Tryd.pinned (.plain (OpenSpec.ofChange fnExactSubstLineSpec)) fnExactSubstLineCard

/-- THE SECOND FORM's CARD OF 'laws.FnAvoiding'. -/
def fnAvoidingUptoCard : Claim7 := { stood := { row := fnAvoidingUptoRow, standIns := [], harness := (true, "d7067e150edffe99da9e4fc9b72d20d9cbcbb06d896b9a0938662309c08aefcc"), looks := false }, kinds := [], alts := [], laidByText := true, laidKinds := [.data, .data, .data], laidTests := true, laidLooks := .later }
def FnAvoidingUptoCardSaid : Prop := Claim7.holds Tryd.pinned (.plain (OpenSpec.upto fnAvoidingSpec)) fnAvoidingUptoCard

/-- THE SECOND FORM's CARD OF 'laws.FnExactSubstLine'. -/
def fnExactSubstLineUptoCard : Claim7 := { stood := { row := fnExactSubstLineUptoRow, standIns := [], harness := (true, "d7067e150edffe99da9e4fc9b72d20d9cbcbb06d896b9a0938662309c08aefcc"), looks := false }, kinds := [], alts := [], laidByText := true, laidKinds := [.data, .data, .data], laidTests := true, laidLooks := .later }
def FnExactSubstLineUptoCardSaid : Prop := Claim7.holds Tryd.pinned (.plain (OpenSpec.upto fnExactSubstLineSpec)) fnExactSubstLineUptoCard
end Rows
end Go.Proofs.YtgdkbpegojgjeaaDoor
