/-
  DERIVED. GIVEN WITH THE SEED: THE CARDS: each row of YtahdcmhjahkbnaaDoorRows.lean that lists a variable, with what it lists TIED to the program's text (the seventh form; the later family's looks); each row that meets fmt, with fmt's text TOLD by the authors' own Lean function (tested against real Go, not proved from fmt's source: count such statements apart). THE CARD IS WHAT COUNTS. Prove the row's statement (the work); the ties are given (YtahdcmhjahkbnaaDoorTie.lean); close each card by the builder's one call (the guide's Derived/Test/ToyasCard.lean, 'card_holds'). Laid BY PROGRAM, IN A SANDBOX (cutbox-door.mjs). By AI agents, Wed Nov 11 2026. No macro, syntax, notation, axiom, sorry.
-/
import Derived.Test.YtahdcmhjahkbnaaDoorRows
import GoSem.ClaimSeven
namespace Go.Proofs.YtahdcmhjahkbnaaDoor
namespace Rows

/-- THE TIED CARD OF 'laws.FnExactGoldLine'. -/
def fnExactGoldLineCard : Claim7 := { stood := { row := fnExactGoldLineRow, standIns := [], harness := (true, "3984cd3dc053e86b3a393724a00d81dfdc1e57d8d08bf9914b7696eed148a068"), looks := false }, kinds := [], alts := [], laidByText := true, laidKinds := [.data, .data, .data], laidTests := true, laidLooks := .later }
def FnExactGoldLineCardSaid : Prop := Claim7.holds Tryd.pinned (.plain (OpenSpec.ofChange fnExactGoldLineSpec)) fnExactGoldLineCard

/-- THE TIED CARD OF 'laws.FnExactFormatNumbers'. -/
def fnExactFormatNumbersCard : Claim7 := { stood := { row := fnExactFormatNumbersRow, standIns := [], harness := (true, "3984cd3dc053e86b3a393724a00d81dfdc1e57d8d08bf9914b7696eed148a068"), looks := false }, kinds := [], alts := [], laidByText := true, laidKinds := [.data, .data, .data], laidTests := true, laidLooks := .later }
def FnExactFormatNumbersCardSaid : Prop := Claim7.holds Tryd.pinned (.plain (OpenSpec.ofChange fnExactFormatNumbersSpec)) fnExactFormatNumbersCard

/-- THE TIED CARD OF 'laws.FnExactNumberLine'. -/
def fnExactNumberLineCard : Claim7 := { stood := { row := fnExactNumberLineRow, standIns := [], harness := (true, "3984cd3dc053e86b3a393724a00d81dfdc1e57d8d08bf9914b7696eed148a068"), looks := false }, kinds := [], alts := [], laidByText := true, laidKinds := [.data, .data, .data], laidTests := true, laidLooks := .later }
def FnExactNumberLineCardSaid : Prop := Claim7.holds Tryd.pinned (.plain (OpenSpec.ofChange fnExactNumberLineSpec)) fnExactNumberLineCard

/-- THE TIED CARD OF 'laws.FnExactCountAvoiding'. -/
def fnExactCountAvoidingCard : Claim7 := { stood := { row := fnExactCountAvoidingRow, standIns := [], harness := (true, "3984cd3dc053e86b3a393724a00d81dfdc1e57d8d08bf9914b7696eed148a068"), looks := false }, kinds := [], alts := [], laidByText := true, laidKinds := [.data, .data, .data], laidTests := true, laidLooks := .later }
def FnExactCountAvoidingCardSaid : Prop := Claim7.holds Tryd.pinned (.plain (OpenSpec.ofChange fnExactCountAvoidingSpec)) fnExactCountAvoidingCard

/-- THE TIED CARD OF 'laws.FnExactFirstAvoiding'. -/
def fnExactFirstAvoidingCard : Claim7 := { stood := { row := fnExactFirstAvoidingRow, standIns := [], harness := (true, "3984cd3dc053e86b3a393724a00d81dfdc1e57d8d08bf9914b7696eed148a068"), looks := false }, kinds := [], alts := [], laidByText := true, laidKinds := [.data, .data, .data], laidTests := true, laidLooks := .later }
def FnExactFirstAvoidingCardSaid : Prop := Claim7.holds Tryd.pinned (.plain (OpenSpec.ofChange fnExactFirstAvoidingSpec)) fnExactFirstAvoidingCard

/-- THE TIED CARD OF 'laws.FnExactNewBench'. -/
def fnExactNewBenchCard : Claim7 := { stood := { row := fnExactNewBenchRow, standIns := [], harness := (true, "3984cd3dc053e86b3a393724a00d81dfdc1e57d8d08bf9914b7696eed148a068"), looks := false }, kinds := [], alts := [], laidByText := true, laidKinds := [.data, .pinned], laidTests := true, laidLooks := .later }
def FnExactNewBenchCardSaid : Prop := Claim7.holds Tryd.pinned (.plain (OpenSpec.ofChange fnExactNewBenchSpec)) fnExactNewBenchCard

/-- THE TIED CARD OF 'laws.FnComplements'. -/
def fnComplementsCard : Claim7 := { stood := { row := fnComplementsRow, standIns := [], harness := (true, "3984cd3dc053e86b3a393724a00d81dfdc1e57d8d08bf9914b7696eed148a068"), looks := false }, kinds := [], alts := [], laidByText := true, laidKinds := [.data, .pinned], laidTests := true, laidLooks := .later }
def FnComplementsCardSaid : Prop := Claim7.holds Tryd.pinned (.plain (OpenSpec.ofChange fnComplementsSpec)) fnComplementsCard

/-- THE SECOND FORM's CARD OF 'laws.FnExactGoldLine'. -/
def fnExactGoldLineUptoCard : Claim7 := { stood := { row := fnExactGoldLineUptoRow, standIns := [], harness := (true, "3984cd3dc053e86b3a393724a00d81dfdc1e57d8d08bf9914b7696eed148a068"), looks := false }, kinds := [], alts := [], laidByText := true, laidKinds := [.data, .data, .data], laidTests := true, laidLooks := .later }
def FnExactGoldLineUptoCardSaid : Prop := Claim7.holds Tryd.pinned (.plain (OpenSpec.upto fnExactGoldLineSpec)) fnExactGoldLineUptoCard

/-- THE SECOND FORM's CARD OF 'laws.FnExactFormatNumbers'. -/
def fnExactFormatNumbersUptoCard : Claim7 := { stood := { row := fnExactFormatNumbersUptoRow, standIns := [], harness := (true, "3984cd3dc053e86b3a393724a00d81dfdc1e57d8d08bf9914b7696eed148a068"), looks := false }, kinds := [], alts := [], laidByText := true, laidKinds := [.data, .data, .data], laidTests := true, laidLooks := .later }
def FnExactFormatNumbersUptoCardSaid : Prop := Claim7.holds Tryd.pinned (.plain (OpenSpec.upto fnExactFormatNumbersSpec)) fnExactFormatNumbersUptoCard

/-- THE SECOND FORM's CARD OF 'laws.FnExactNumberLine'. -/
def fnExactNumberLineUptoCard : Claim7 := { stood := { row := fnExactNumberLineUptoRow, standIns := [], harness := (true, "3984cd3dc053e86b3a393724a00d81dfdc1e57d8d08bf9914b7696eed148a068"), looks := false }, kinds := [], alts := [], laidByText := true, laidKinds := [.data, .data, .data], laidTests := true, laidLooks := .later }
def FnExactNumberLineUptoCardSaid : Prop := Claim7.holds Tryd.pinned (.plain (OpenSpec.upto fnExactNumberLineSpec)) fnExactNumberLineUptoCard

/-- THE SECOND FORM's CARD OF 'laws.FnExactCountAvoiding'. -/
def fnExactCountAvoidingUptoCard : Claim7 := { stood := { row := fnExactCountAvoidingUptoRow, standIns := [], harness := (true, "3984cd3dc053e86b3a393724a00d81dfdc1e57d8d08bf9914b7696eed148a068"), looks := false }, kinds := [], alts := [], laidByText := true, laidKinds := [.data, .data, .data], laidTests := true, laidLooks := .later }
def FnExactCountAvoidingUptoCardSaid : Prop := Claim7.holds Tryd.pinned (.plain (OpenSpec.upto fnExactCountAvoidingSpec)) fnExactCountAvoidingUptoCard

/-- THE SECOND FORM's CARD OF 'laws.FnExactFirstAvoiding'. -/
def fnExactFirstAvoidingUptoCard : Claim7 := { stood := { row := fnExactFirstAvoidingUptoRow, standIns := [], harness := (true, "3984cd3dc053e86b3a393724a00d81dfdc1e57d8d08bf9914b7696eed148a068"), looks := false }, kinds := [], alts := [], laidByText := true, laidKinds := [.data, .data, .data], laidTests := true, laidLooks := .later }
def FnExactFirstAvoidingUptoCardSaid : Prop := Claim7.holds Tryd.pinned (.plain (OpenSpec.upto fnExactFirstAvoidingSpec)) fnExactFirstAvoidingUptoCard

/-- THE SECOND FORM's CARD OF 'laws.FnExactNewBench'. -/
def fnExactNewBenchUptoCard : Claim7 := { stood := { row := fnExactNewBenchUptoRow, standIns := [], harness := (true, "3984cd3dc053e86b3a393724a00d81dfdc1e57d8d08bf9914b7696eed148a068"), looks := false }, kinds := [], alts := [], laidByText := true, laidKinds := [.data, .pinned], laidTests := true, laidLooks := .later }
def FnExactNewBenchUptoCardSaid : Prop := Claim7.holds Tryd.pinned (.plain (OpenSpec.upto fnExactNewBenchSpec)) fnExactNewBenchUptoCard

/-- THE SECOND FORM's CARD OF 'laws.FnComplements'. -/
def fnComplementsUptoCard : Claim7 := { stood := { row := fnComplementsUptoRow, standIns := [], harness := (true, "3984cd3dc053e86b3a393724a00d81dfdc1e57d8d08bf9914b7696eed148a068"), looks := false }, kinds := [], alts := [], laidByText := true, laidKinds := [.data, .pinned], laidTests := true, laidLooks := .later }
def FnComplementsUptoCardSaid : Prop := Claim7.holds Tryd.pinned (.plain (OpenSpec.upto fnComplementsSpec)) fnComplementsUptoCard
end Rows
end Go.Proofs.YtahdcmhjahkbnaaDoor
