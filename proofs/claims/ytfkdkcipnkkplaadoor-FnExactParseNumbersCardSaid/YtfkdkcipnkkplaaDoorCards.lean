/-
  DERIVED. GIVEN WITH THE SEED: THE CARDS: each row of YtfkdkcipnkkplaaDoorRows.lean that lists a variable, with what it lists TIED to the program's text (the seventh form; the later family's looks); each row that meets fmt, with fmt's text TOLD by the authors' own Lean function (tested against real Go, not proved from fmt's source: count such statements apart). THE CARD IS WHAT COUNTS. Prove the row's statement (the work); the ties are given (YtfkdkcipnkkplaaDoorTie.lean); close each card by the builder's one call (the guide's Derived/Test/ToyasCard.lean, 'card_holds'). Laid BY PROGRAM, IN A SANDBOX (cutbox-door.mjs). By AI agents, Wed Nov 11 2026. No macro, syntax, notation, axiom, sorry.
-/
import Derived.Test.YtfkdkcipnkkplaaDoorRows
import GoSem.ClaimSeven
namespace Go.Proofs.YtfkdkcipnkkplaaDoor
namespace Rows

/-- THE TIED CARD OF 'laws.FnExactSubstLine'. -/
def fnExactSubstLineCard : Claim7 := { stood := { row := fnExactSubstLineRow, standIns := [], harness := (true, "7c181155a5e8aaecb9c5aeccb0bc67a8401d5dbc7103c13804fffa5fb7c38cf0"), looks := true }, kinds := [], alts := [], laidByText := true, laidKinds := [.data, .data, .data], laidTests := true, laidLooks := .later }
def FnExactSubstLineCardSaid : Prop := Claim7.holds Tryd.pinned (.plain (OpenSpec.ofChange fnExactSubstLineSpec)) fnExactSubstLineCard

/-- THE TIED CARD OF 'laws.FnExactParseNumbers'. -/
def fnExactParseNumbersCard : Claim7 := { stood := { row := fnExactParseNumbersRow, standIns := [], harness := (true, "7c181155a5e8aaecb9c5aeccb0bc67a8401d5dbc7103c13804fffa5fb7c38cf0"), looks := true }, kinds := [], alts := [], laidByText := true, laidKinds := [.data, .data, .data, .data, .sentinel, .sentinel, .pinned], laidTests := true, laidLooks := .later }
def FnExactParseNumbersCardSaid : Prop := Claim7.holds Tryd.pinned (.plain (OpenSpec.ofChange fnExactParseNumbersSpec)) fnExactParseNumbersCard

/-- THE TIED CARD OF 'laws.FnExactCountAvoiding'. -/
def fnExactCountAvoidingCard : Claim7 := { stood := { row := fnExactCountAvoidingRow, standIns := [], harness := (true, "7c181155a5e8aaecb9c5aeccb0bc67a8401d5dbc7103c13804fffa5fb7c38cf0"), looks := true }, kinds := [], alts := [], laidByText := true, laidKinds := [.data, .data, .data], laidTests := true, laidLooks := .later }
def FnExactCountAvoidingCardSaid : Prop := Claim7.holds Tryd.pinned (.plain (OpenSpec.ofChange fnExactCountAvoidingSpec)) fnExactCountAvoidingCard

/-- THE TIED CARD OF 'laws.FnExactFirstAvoiding'. -/
def fnExactFirstAvoidingCard : Claim7 := { stood := { row := fnExactFirstAvoidingRow, standIns := [], harness := (true, "7c181155a5e8aaecb9c5aeccb0bc67a8401d5dbc7103c13804fffa5fb7c38cf0"), looks := true }, kinds := [], alts := [], laidByText := true, laidKinds := [.data, .data, .data], laidTests := true, laidLooks := .later }
def FnExactFirstAvoidingCardSaid : Prop := Claim7.holds Tryd.pinned (.plain (OpenSpec.ofChange fnExactFirstAvoidingSpec)) fnExactFirstAvoidingCard

/-- THE SECOND FORM's CARD OF 'laws.FnExactSubstLine'. -/
def fnExactSubstLineUptoCard : Claim7 := { stood := { row := fnExactSubstLineUptoRow, standIns := [], harness := (true, "7c181155a5e8aaecb9c5aeccb0bc67a8401d5dbc7103c13804fffa5fb7c38cf0"), looks := true }, kinds := [], alts := [], laidByText := true, laidKinds := [.data, .data, .data], laidTests := true, laidLooks := .later }
def FnExactSubstLineUptoCardSaid : Prop := Claim7.holds Tryd.pinned (.plain (OpenSpec.upto fnExactSubstLineSpec)) fnExactSubstLineUptoCard

/-- THE SECOND FORM's CARD OF 'laws.FnExactParseNumbers'. -/
def fnExactParseNumbersUptoCard : Claim7 := { stood := { row := fnExactParseNumbersUptoRow, standIns := [], harness := (true, "7c181155a5e8aaecb9c5aeccb0bc67a8401d5dbc7103c13804fffa5fb7c38cf0"), looks := true }, kinds := [], alts := [], laidByText := true, laidKinds := [.data, .data, .data, .data, .sentinel, .sentinel, .pinned], laidTests := true, laidLooks := .later }
def FnExactParseNumbersUptoCardSaid : Prop := Claim7.holds Tryd.pinned (.plain (OpenSpec.upto fnExactParseNumbersSpec)) fnExactParseNumbersUptoCard

/-- THE SECOND FORM's CARD OF 'laws.FnExactCountAvoiding'. -/
def fnExactCountAvoidingUptoCard : Claim7 := { stood := { row := fnExactCountAvoidingUptoRow, standIns := [], harness := (true, "7c181155a5e8aaecb9c5aeccb0bc67a8401d5dbc7103c13804fffa5fb7c38cf0"), looks := true }, kinds := [], alts := [], laidByText := true, laidKinds := [.data, .data, .data], laidTests := true, laidLooks := .later }
def FnExactCountAvoidingUptoCardSaid : Prop := Claim7.holds Tryd.pinned (.plain (OpenSpec.upto fnExactCountAvoidingSpec)) fnExactCountAvoidingUptoCard

/-- THE SECOND FORM's CARD OF 'laws.FnExactFirstAvoiding'. -/
def fnExactFirstAvoidingUptoCard : Claim7 := { stood := { row := fnExactFirstAvoidingUptoRow, standIns := [], harness := (true, "7c181155a5e8aaecb9c5aeccb0bc67a8401d5dbc7103c13804fffa5fb7c38cf0"), looks := true }, kinds := [], alts := [], laidByText := true, laidKinds := [.data, .data, .data], laidTests := true, laidLooks := .later }
def FnExactFirstAvoidingUptoCardSaid : Prop := Claim7.holds Tryd.pinned (.plain (OpenSpec.upto fnExactFirstAvoidingSpec)) fnExactFirstAvoidingUptoCard
end Rows
end Go.Proofs.YtfkdkcipnkkplaaDoor
