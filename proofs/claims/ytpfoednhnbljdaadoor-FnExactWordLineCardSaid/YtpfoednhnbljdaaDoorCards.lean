/-
  DERIVED. GIVEN WITH THE SEED: THE CARDS: each row of YtpfoednhnbljdaaDoorRows.lean that lists a variable, with what it lists TIED to the program's text (the seventh form; the later family's looks); each row that meets fmt, with fmt's text TOLD by the authors' own Lean function (tested against real Go, not proved from fmt's source: count such statements apart). THE CARD IS WHAT COUNTS. Prove the row's statement (the work); the ties are given (YtpfoednhnbljdaaDoorTie.lean); close each card by the builder's one call (the guide's Derived/Test/ToyasCard.lean, 'card_holds'). Laid BY PROGRAM, IN A SANDBOX (cutbox-door.mjs). By AI agents, Wed Nov 11 2026. No macro, syntax, notation, axiom, sorry.
-/
import Derived.Test.YtpfoednhnbljdaaDoorRows
import GoSem.ClaimSeven
namespace Go.Proofs.YtpfoednhnbljdaaDoor
namespace Rows

/-- THE TIED CARD OF 'laws.FnExactFactorLine'. -/
def fnExactFactorLineCard : Claim7 := { stood := { row := fnExactFactorLineRow, standIns := [], harness := (true, "b47bdf619f04a8e9bf208cc501d8d9e9cb8ba3aced1502888b6d707249936050"), looks := true }, kinds := [], alts := [], laidByText := true, laidKinds := [.data, .data, .data], laidTests := true, laidLooks := .later }
def FnExactFactorLineCardSaid : Prop := Claim7.holds Tryd.pinned (.plain (OpenSpec.ofChange fnExactFactorLineSpec)) fnExactFactorLineCard

/-- THE TIED CARD OF 'laws.FnExactWordLine'. -/
def fnExactWordLineCard : Claim7 := { stood := { row := fnExactWordLineRow, standIns := [], harness := (true, "b47bdf619f04a8e9bf208cc501d8d9e9cb8ba3aced1502888b6d707249936050"), looks := true }, kinds := [], alts := [], laidByText := true, laidKinds := [.data, .data, .data], laidTests := true, laidLooks := .later }
def FnExactWordLineCardSaid : Prop := Claim7.holds Tryd.pinned (.plain (OpenSpec.ofChange fnExactWordLineSpec)) fnExactWordLineCard

/-- THE TIED CARD OF 'laws.FnExactParseNumbers'. -/
def fnExactParseNumbersCard : Claim7 := { stood := { row := fnExactParseNumbersRow, standIns := [], harness := (true, "b47bdf619f04a8e9bf208cc501d8d9e9cb8ba3aced1502888b6d707249936050"), looks := true }, kinds := [], alts := [], laidByText := true, laidKinds := [.data, .data, .data, .data, .sentinel, .sentinel, .pinned], laidTests := true, laidLooks := .later }
def FnExactParseNumbersCardSaid : Prop := Claim7.holds Tryd.pinned (.plain (OpenSpec.ofChange fnExactParseNumbersSpec)) fnExactParseNumbersCard

/-- THE TIED CARD OF 'laws.FnExactSubstLine'. -/
def fnExactSubstLineCard : Claim7 := { stood := { row := fnExactSubstLineRow, standIns := [], harness := (true, "b47bdf619f04a8e9bf208cc501d8d9e9cb8ba3aced1502888b6d707249936050"), looks := true }, kinds := [], alts := [], laidByText := true, laidKinds := [.data, .data, .data], laidTests := true, laidLooks := .later }
def FnExactSubstLineCardSaid : Prop := Claim7.holds Tryd.pinned (.plain (OpenSpec.ofChange fnExactSubstLineSpec)) fnExactSubstLineCard

/-- THE SECOND FORM's CARD OF 'laws.FnExactFactorLine'. -/
def fnExactFactorLineUptoCard : Claim7 := { stood := { row := fnExactFactorLineUptoRow, standIns := [], harness := (true, "b47bdf619f04a8e9bf208cc501d8d9e9cb8ba3aced1502888b6d707249936050"), looks := true }, kinds := [], alts := [], laidByText := true, laidKinds := [.data, .data, .data], laidTests := true, laidLooks := .later }
def FnExactFactorLineUptoCardSaid : Prop := Claim7.holds Tryd.pinned (.plain (OpenSpec.upto fnExactFactorLineSpec)) fnExactFactorLineUptoCard

/-- THE SECOND FORM's CARD OF 'laws.FnExactWordLine'. -/
def fnExactWordLineUptoCard : Claim7 := { stood := { row := fnExactWordLineUptoRow, standIns := [], harness := (true, "b47bdf619f04a8e9bf208cc501d8d9e9cb8ba3aced1502888b6d707249936050"), looks := true }, kinds := [], alts := [], laidByText := true, laidKinds := [.data, .data, .data], laidTests := true, laidLooks := .later }
def FnExactWordLineUptoCardSaid : Prop := Claim7.holds Tryd.pinned (.plain (OpenSpec.upto fnExactWordLineSpec)) fnExactWordLineUptoCard

/-- THE SECOND FORM's CARD OF 'laws.FnExactParseNumbers'. -/
def fnExactParseNumbersUptoCard : Claim7 := { stood := { row := fnExactParseNumbersUptoRow, standIns := [], harness := (true, "b47bdf619f04a8e9bf208cc501d8d9e9cb8ba3aced1502888b6d707249936050"), looks := true }, kinds := [], alts := [], laidByText := true, laidKinds := [.data, .data, .data, .data, .sentinel, .sentinel, .pinned], laidTests := true, laidLooks := .later }
def FnExactParseNumbersUptoCardSaid : Prop := Claim7.holds Tryd.pinned (.plain (OpenSpec.upto fnExactParseNumbersSpec)) fnExactParseNumbersUptoCard

/-- THE SECOND FORM's CARD OF 'laws.FnExactSubstLine'. -/
def fnExactSubstLineUptoCard : Claim7 := { stood := { row := fnExactSubstLineUptoRow, standIns := [], harness := (true, "b47bdf619f04a8e9bf208cc501d8d9e9cb8ba3aced1502888b6d707249936050"), looks := true }, kinds := [], alts := [], laidByText := true, laidKinds := [.data, .data, .data], laidTests := true, laidLooks := .later }
def FnExactSubstLineUptoCardSaid : Prop := Claim7.holds Tryd.pinned (.plain (OpenSpec.upto fnExactSubstLineSpec)) fnExactSubstLineUptoCard
end Rows
end Go.Proofs.YtpfoednhnbljdaaDoor
