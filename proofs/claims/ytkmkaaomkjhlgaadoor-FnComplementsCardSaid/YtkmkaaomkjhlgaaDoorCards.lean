/-
  DERIVED. GIVEN WITH THE SEED: THE CARDS: each row of YtkmkaaomkjhlgaaDoorRows.lean that lists a variable, with what it lists TIED to the program's text (the seventh form; the later family's looks); each row that meets fmt, with fmt's text TOLD by the authors' own Lean function (tested against real Go, not proved from fmt's source: count such statements apart). THE CARD IS WHAT COUNTS. Prove the row's statement (the work); the ties are given (YtkmkaaomkjhlgaaDoorTie.lean); close each card by the builder's one call (the guide's Derived/Test/ToyasCard.lean, 'card_holds'). Laid BY PROGRAM, IN A SANDBOX (cutbox-door.mjs). By AI agents, Wed Nov 11 2026. No macro, syntax, notation, axiom, sorry.
-/
import Derived.Test.YtkmkaaomkjhlgaaDoorRows
import GoSem.ClaimSeven
namespace Go.Proofs.YtkmkaaomkjhlgaaDoor
namespace Rows

/-- THE TIED CARD OF 'laws.FnExactNewBench'. -/
def fnExactNewBenchCard : Claim7 := { stood := { row := fnExactNewBenchRow, standIns := [], harness := (true, "b8d5b56826e93fb8ab8cb4ddad8874c504f2fadb5bcbb86c624dcac662442b5e"), looks := false }, kinds := [], alts := [], laidByText := true, laidKinds := [.data, .pinned], laidTests := true, laidLooks := .later }
def FnExactNewBenchCardSaid : Prop := Claim7.holds Tryd.pinned (.plain (OpenSpec.ofChange fnExactNewBenchSpec)) fnExactNewBenchCard

/-- THE TIED CARD OF 'laws.FnComplements'. -/
def fnComplementsCard : Claim7 := { stood := { row := fnComplementsRow, standIns := [], harness := (true, "b8d5b56826e93fb8ab8cb4ddad8874c504f2fadb5bcbb86c624dcac662442b5e"), looks := false }, kinds := [], alts := [], laidByText := true, laidKinds := [.data, .pinned], laidTests := true, laidLooks := .later }
def FnComplementsCardSaid : Prop := Claim7.holds Tryd.pinned (.plain (OpenSpec.ofChange fnComplementsSpec)) fnComplementsCard

/-- THE SECOND FORM's CARD OF 'laws.FnExactNewBench'. -/
def fnExactNewBenchUptoCard : Claim7 := { stood := { row := fnExactNewBenchUptoRow, standIns := [], harness := (true, "b8d5b56826e93fb8ab8cb4ddad8874c504f2fadb5bcbb86c624dcac662442b5e"), looks := false }, kinds := [], alts := [], laidByText := true, laidKinds := [.data, .pinned], laidTests := true, laidLooks := .later }
def FnExactNewBenchUptoCardSaid : Prop := Claim7.holds Tryd.pinned (.plain (OpenSpec.upto fnExactNewBenchSpec)) fnExactNewBenchUptoCard

/-- THE SECOND FORM's CARD OF 'laws.FnComplements'. -/
def fnComplementsUptoCard : Claim7 := { stood := { row := fnComplementsUptoRow, standIns := [], harness := (true, "b8d5b56826e93fb8ab8cb4ddad8874c504f2fadb5bcbb86c624dcac662442b5e"), looks := false }, kinds := [], alts := [], laidByText := true, laidKinds := [.data, .pinned], laidTests := true, laidLooks := .later }
def FnComplementsUptoCardSaid : Prop := Claim7.holds Tryd.pinned (.plain (OpenSpec.upto fnComplementsSpec)) fnComplementsUptoCard
end Rows
end Go.Proofs.YtkmkaaomkjhlgaaDoor
