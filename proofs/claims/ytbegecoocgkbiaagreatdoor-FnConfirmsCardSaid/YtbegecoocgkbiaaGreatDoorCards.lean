/-
  DERIVED. GIVEN WITH THE SEED: THE CARDS: each row of YtbegecoocgkbiaaGreatDoorRows.lean that lists a variable, with what it lists TIED to the program's text (the seventh form; the later family's looks); each row that meets fmt, with fmt's text TOLD by the authors' own Lean function (tested against real Go, not proved from fmt's source: count such statements apart). THE CARD IS WHAT COUNTS. Prove the row's statement (the work); the ties are given (YtbegecoocgkbiaaGreatDoorTie.lean); close each card by the builder's one call (the guide's Derived/Test/ToyasCard.lean, 'card_holds'). Laid BY PROGRAM, IN A SANDBOX (cutbox-door.mjs). By AI agents, Wed Nov 11 2026. No macro, syntax, notation, axiom, sorry.
-/
import Derived.Test.YtbegecoocgkbiaaGreatDoorRows
import GoSem.ClaimSeven
namespace Go.Proofs.YtbegecoocgkbiaaGreatDoor
namespace Rows

/-- THE TIED CARD OF 'laws.FnConfirms'. -/
def fnConfirmsCard : Claim7 := { stood := { row := fnConfirmsRow, standIns := [], harness := (true, "7521739e21d70b8b50b7c06b0699ddf20ead302fefcf2b217090a6e530e0f91c"), looks := true }, kinds := [], alts := [], laidByText := true, laidKinds := [.data, .data, .data, .data, .pinned], laidTests := true, laidLooks := .later }
def FnConfirmsCardSaid : Prop := Claim7.holds Tryz.pinned (.plain (OpenSpec.ofChange fnConfirmsSpec)) fnConfirmsCard

/-- THE TIED CARD OF 'laws.FnReports'. -/
def fnReportsCard : Claim7 := { stood := { row := fnReportsRow, standIns := [], harness := (true, "7521739e21d70b8b50b7c06b0699ddf20ead302fefcf2b217090a6e530e0f91c"), looks := true }, kinds := [], alts := [], laidByText := true, laidKinds := [.data, .data, .data, .data, .sentinel, .sentinel, .pinned], laidTests := true, laidLooks := .later }
def FnReportsCardSaid : Prop := Claim7.holds Tryz.pinned (.plain (OpenSpec.ofChange fnReportsSpec)) fnReportsCard

/-- THE SECOND FORM's CARD OF 'laws.FnConfirms'. -/
def fnConfirmsUptoCard : Claim7 := { stood := { row := fnConfirmsUptoRow, standIns := [], harness := (true, "7521739e21d70b8b50b7c06b0699ddf20ead302fefcf2b217090a6e530e0f91c"), looks := true }, kinds := [], alts := [], laidByText := true, laidKinds := [.data, .data, .data, .data, .pinned], laidTests := true, laidLooks := .later }
def FnConfirmsUptoCardSaid : Prop := Claim7.holds Tryz.pinned (.plain (OpenSpec.upto fnConfirmsSpec)) fnConfirmsUptoCard

/-- THE SECOND FORM's CARD OF 'laws.FnReports'. -/
def fnReportsUptoCard : Claim7 := { stood := { row := fnReportsUptoRow, standIns := [], harness := (true, "7521739e21d70b8b50b7c06b0699ddf20ead302fefcf2b217090a6e530e0f91c"), looks := true }, kinds := [], alts := [], laidByText := true, laidKinds := [.data, .data, .data, .data, .sentinel, .sentinel, .pinned], laidTests := true, laidLooks := .later }
def FnReportsUptoCardSaid : Prop := Claim7.holds Tryz.pinned (.plain (OpenSpec.upto fnReportsSpec)) fnReportsUptoCard
end Rows
end Go.Proofs.YtbegecoocgkbiaaGreatDoor
