/-
  No cell of these rows narrows 'for every input' (looked for: loops, veiled, ifaces, maps, wideKeys, modest, calm, conditions, laid).
  DERIVED. THE GIVEN ROWS OF THIS SEAT. 6 by the template 'for every input the law returns true; each argument reads behind the call as it read before'; 0 by the template 'total and deterministic' (their statements: YtcgomfbbbnfmnaaTotals.lean).
  GIVEN WITH THE SEED: the statements are not yours to turn. If you find one false, say at which input.
  Laid BY PROGRAM, IN A SANDBOX (cutbox-rows.mjs): the forced cells as the released guide's own fill.sh prints them over the translation c89056cca1dc9910… (all of the seat's roots in one cut). By AI agents, Wed Nov 11 2026. No macro, syntax, notation, axiom, sorry.
-/
import Derived.Test.YtcgomfbbbnfmnaaChecked
import GoSem.Claim
import GoSem.ClaimJoined
import GoSem.ClaimMapViews
import Derived.JoinedTies
import Derived.KernelRfl
namespace Go.Proofs.Ytcgomfbbbnfmnaa
/- THE CELL 'sum', in the pinned program and in every row, IS THE sha256 OF THE DUMP (.gsa) THAT YtcgomfbbbnfmnaaProg.lean LOADS. Nothing in Lean hashes anything: it is a label: what it is worth is what the hold of that sum in a sandbox is worth. -/
noncomputable def Try.pinned : Pinned := { name := "ytcgomfbbbnfmnaa", sum := "c89056cca1dc9910380d510d3dcaea526bd1a51e21a5a8cfdad2c6e47d5677a3", checked := Try.checked }
namespace Rows
def none {H : Type} : Left H := { results := [], args := [] }

/-- 'laws.FnExactSameFactors': WHATEVER THE INPUT: true; the input reads as it did. -/
def fnExactSameFactorsSpec : ChangeSpec := { name := "fnExactSameFactors", fn := fun _ => fun
  | [d1, d2] => { results := [.lit (.bool true)], args := [d1, d2] }
  | _ => none }
def fnExactSameFactorsRow : OpenClaim := { program := "ytcgomfbbbnfmnaa", sum := "c89056cca1dc9910380d510d3dcaea526bd1a51e21a5a8cfdad2c6e47d5677a3", func := "loop.example/g03209/laws.FnExactSameFactors", spec := "fnExactSameFactors", recurses := true, apart := false }
def FnExactSameFactorsSaid : Prop := fnExactSameFactorsRow.holds Try.pinned (OpenSpec.ofChange fnExactSameFactorsSpec)

/-- ITS FALSE NEIGHBOUR: 'it returns false'. Refute it at one input. -/
def fnExactSameFactorsWrong : ChangeSpec := { name := "fnExactSameFactors", fn := fun _ => fun
  | [d1, d2] => { results := [.lit (.bool false)], args := [d1, d2] }
  | _ => none }
def FnExactSameFactorsWrongFalsely : Prop := fnExactSameFactorsRow.holds Try.pinned (OpenSpec.ofChange fnExactSameFactorsWrong)

/-- 'laws.FnExactSharedFactors': WHATEVER THE INPUT: true; the input reads as it did. -/
def fnExactSharedFactorsSpec : ChangeSpec := { name := "fnExactSharedFactors", fn := fun _ => fun
  | [d1, d2, d3] => { results := [.lit (.bool true)], args := [d1, d2, d3] }
  | _ => none }
def fnExactSharedFactorsRow : OpenClaim := { program := "ytcgomfbbbnfmnaa", sum := "c89056cca1dc9910380d510d3dcaea526bd1a51e21a5a8cfdad2c6e47d5677a3", func := "loop.example/g03209/laws.FnExactSharedFactors", spec := "fnExactSharedFactors", recurses := true, apart := false }
def FnExactSharedFactorsSaid : Prop := fnExactSharedFactorsRow.holds Try.pinned (OpenSpec.ofChange fnExactSharedFactorsSpec)

/-- ITS FALSE NEIGHBOUR: 'it returns false'. Refute it at one input. -/
def fnExactSharedFactorsWrong : ChangeSpec := { name := "fnExactSharedFactors", fn := fun _ => fun
  | [d1, d2, d3] => { results := [.lit (.bool false)], args := [d1, d2, d3] }
  | _ => none }
def FnExactSharedFactorsWrongFalsely : Prop := fnExactSharedFactorsRow.holds Try.pinned (OpenSpec.ofChange fnExactSharedFactorsWrong)

/-- 'laws.FnExactLeastBan': WHATEVER THE INPUT: true; the input reads as it did. -/
def fnExactLeastBanSpec : ChangeSpec := { name := "fnExactLeastBan", fn := fun _ => fun
  | [d] => { results := [.lit (.bool true)], args := [d] }
  | _ => none }
def fnExactLeastBanRow : OpenClaim := { program := "ytcgomfbbbnfmnaa", sum := "c89056cca1dc9910380d510d3dcaea526bd1a51e21a5a8cfdad2c6e47d5677a3", func := "loop.example/g03209/laws.FnExactLeastBan", spec := "fnExactLeastBan", inPlace := ["internal/bytealg.IndexByteString", "internal/bytealg.IndexString"], recurses := true, named := ["internal/bytealg.MaxLen"], apart := false }
def FnExactLeastBanSaid : Prop := fnExactLeastBanRow.holds Try.pinned (OpenSpec.ofChange fnExactLeastBanSpec)

/-- ITS FALSE NEIGHBOUR: 'it returns false'. Refute it at one input. -/
def fnExactLeastBanWrong : ChangeSpec := { name := "fnExactLeastBan", fn := fun _ => fun
  | [d] => { results := [.lit (.bool false)], args := [d] }
  | _ => none }
def FnExactLeastBanWrongFalsely : Prop := fnExactLeastBanRow.holds Try.pinned (OpenSpec.ofChange fnExactLeastBanWrong)

/-- 'laws.FnExactReducedBan': WHATEVER THE INPUT: true; the input reads as it did. -/
def fnExactReducedBanSpec : ChangeSpec := { name := "fnExactReducedBan", fn := fun _ => fun
  | [d] => { results := [.lit (.bool true)], args := [d] }
  | _ => none }
def fnExactReducedBanRow : OpenClaim := { program := "ytcgomfbbbnfmnaa", sum := "c89056cca1dc9910380d510d3dcaea526bd1a51e21a5a8cfdad2c6e47d5677a3", func := "loop.example/g03209/laws.FnExactReducedBan", spec := "fnExactReducedBan", inPlace := ["internal/bytealg.IndexByteString", "internal/bytealg.IndexString"], unfollowed := true, recurses := true, named := ["internal/bytealg.MaxLen"], apart := false }
def FnExactReducedBanSaid : Prop := fnExactReducedBanRow.holds Try.pinned (OpenSpec.ofChange fnExactReducedBanSpec)

/-- ITS FALSE NEIGHBOUR: 'it returns false'. Refute it at one input. -/
def fnExactReducedBanWrong : ChangeSpec := { name := "fnExactReducedBan", fn := fun _ => fun
  | [d] => { results := [.lit (.bool false)], args := [d] }
  | _ => none }
def FnExactReducedBanWrongFalsely : Prop := fnExactReducedBanRow.holds Try.pinned (OpenSpec.ofChange fnExactReducedBanWrong)

/-- 'laws.FnExactRuleLine': WHATEVER THE INPUT: true; the input reads as it did. -/
def fnExactRuleLineSpec : ChangeSpec := { name := "fnExactRuleLine", fn := fun _ => fun
  | [d] => { results := [.lit (.bool true)], args := [d] }
  | _ => none }
def fnExactRuleLineRow : OpenClaim := { program := "ytcgomfbbbnfmnaa", sum := "c89056cca1dc9910380d510d3dcaea526bd1a51e21a5a8cfdad2c6e47d5677a3", func := "loop.example/g03209/laws.FnExactRuleLine", spec := "fnExactRuleLine", inPlace := ["internal/abi.NoEscape", "internal/bytealg.MakeNoZero"], recurses := true, apart := false }
def FnExactRuleLineSaid : Prop := fnExactRuleLineRow.holds Try.pinned (OpenSpec.ofChange fnExactRuleLineSpec)

/-- ITS FALSE NEIGHBOUR: 'it returns false'. Refute it at one input. -/
def fnExactRuleLineWrong : ChangeSpec := { name := "fnExactRuleLine", fn := fun _ => fun
  | [d] => { results := [.lit (.bool false)], args := [d] }
  | _ => none }
def FnExactRuleLineWrongFalsely : Prop := fnExactRuleLineRow.holds Try.pinned (OpenSpec.ofChange fnExactRuleLineWrong)

/-- 'laws.FnRepairs': WHATEVER THE INPUT: true; the input reads as it did. -/
def fnRepairsSpec : ChangeSpec := { name := "fnRepairs", fn := fun _ => fun
  | [d] => { results := [.lit (.bool true)], args := [d] }
  | _ => none }
def fnRepairsRow : OpenClaim := { program := "ytcgomfbbbnfmnaa", sum := "c89056cca1dc9910380d510d3dcaea526bd1a51e21a5a8cfdad2c6e47d5677a3", func := "loop.example/g03209/laws.FnRepairs", spec := "fnRepairs", apart := false }
def FnRepairsSaid : Prop := fnRepairsRow.holds Try.pinned (OpenSpec.ofChange fnRepairsSpec)

/-- ITS FALSE NEIGHBOUR: 'it returns false'. Refute it at one input. -/
def fnRepairsWrong : ChangeSpec := { name := "fnRepairs", fn := fun _ => fun
  | [d] => { results := [.lit (.bool false)], args := [d] }
  | _ => none }
def FnRepairsWrongFalsely : Prop := fnRepairsRow.holds Try.pinned (OpenSpec.ofChange fnRepairsWrong)

/- THE SECOND FORM. 'bulk': how many values and letters a reading holds, each counted each time it is reached (what is shared counts as often as it is met; a slice's spare places count too). A statement '..UptoSaid' is the law's where the arguments, and the package variables that the reading takes, are together of bulk at most 1048576: NARROWER than '..Said'. Prove '..Said' where nothing that the law and all that it calls make is longer than what came in: it says more and counts as full. Else prove '..UptoSaid'. A law counts once. -/
mutual
def uptoBulk {H : Type} : DataW H → Nat
  | .lit (.string bytes) => bytes.length + 1
  | .lit _ => 1
  | .nil => 1
  | .ptr d => uptoBulk d + 1
  | .slice elems spare => uptoBulkAll elems + uptoBulkAll spare + 1
  | .agg parts => uptoBulkAll parts + 1
  | .iface _ d => uptoBulk d + 1
  | .map entries => uptoBulkEntries entries + 1
  | .held _ => 1
def uptoBulkAll {H : Type} : List (DataW H) → Nat
  | [] => 0
  | d :: r => uptoBulk d + uptoBulkAll r
def uptoBulkEntries {H : Type} : List (Lit × DataW H) → Nat
  | [] => 0
  | x :: r => uptoBulkEntry x + uptoBulkEntries r
def uptoBulkEntry {H : Type} : Lit × DataW H → Nat
  | (.string bytes, d) => bytes.length + uptoBulk d + 1
  | (_, d) => uptoBulk d + 1
 end
def uptoSmall : (H : Type) → List (DataW H) → Bool := fun _ ds => decide (uptoBulkAll ds ≤ 1048576)
def OpenSpec.upto (s : _root_.Go.ChangeSpec) : _root_.Go.OpenSpec := { _root_.Go.OpenSpec.ofChange s with cond := some uptoSmall }

/-- 'laws.FnExactSameFactors', WHERE WHAT IT READS IS OF BULK AT MOST 1048576: true; the input reads as it did. -/
def fnExactSameFactorsUptoRow : OpenClaim := { program := "ytcgomfbbbnfmnaa", sum := "c89056cca1dc9910380d510d3dcaea526bd1a51e21a5a8cfdad2c6e47d5677a3", func := "loop.example/g03209/laws.FnExactSameFactors", spec := "fnExactSameFactors", recurses := true, apart := false, narrowed := true }
def FnExactSameFactorsUptoSaid : Prop := fnExactSameFactorsUptoRow.holds Try.pinned (OpenSpec.upto fnExactSameFactorsSpec)

/-- 'laws.FnExactSharedFactors', WHERE WHAT IT READS IS OF BULK AT MOST 1048576: true; the input reads as it did. -/
def fnExactSharedFactorsUptoRow : OpenClaim := { program := "ytcgomfbbbnfmnaa", sum := "c89056cca1dc9910380d510d3dcaea526bd1a51e21a5a8cfdad2c6e47d5677a3", func := "loop.example/g03209/laws.FnExactSharedFactors", spec := "fnExactSharedFactors", recurses := true, apart := false, narrowed := true }
def FnExactSharedFactorsUptoSaid : Prop := fnExactSharedFactorsUptoRow.holds Try.pinned (OpenSpec.upto fnExactSharedFactorsSpec)

/-- 'laws.FnExactLeastBan', WHERE WHAT IT READS IS OF BULK AT MOST 1048576: true; the input reads as it did. -/
def fnExactLeastBanUptoRow : OpenClaim := { program := "ytcgomfbbbnfmnaa", sum := "c89056cca1dc9910380d510d3dcaea526bd1a51e21a5a8cfdad2c6e47d5677a3", func := "loop.example/g03209/laws.FnExactLeastBan", spec := "fnExactLeastBan", inPlace := ["internal/bytealg.IndexByteString", "internal/bytealg.IndexString"], recurses := true, named := ["internal/bytealg.MaxLen"], apart := false, narrowed := true }
def FnExactLeastBanUptoSaid : Prop := fnExactLeastBanUptoRow.holds Try.pinned (OpenSpec.upto fnExactLeastBanSpec)

/-- 'laws.FnExactReducedBan', WHERE WHAT IT READS IS OF BULK AT MOST 1048576: true; the input reads as it did. -/
def fnExactReducedBanUptoRow : OpenClaim := { program := "ytcgomfbbbnfmnaa", sum := "c89056cca1dc9910380d510d3dcaea526bd1a51e21a5a8cfdad2c6e47d5677a3", func := "loop.example/g03209/laws.FnExactReducedBan", spec := "fnExactReducedBan", inPlace := ["internal/bytealg.IndexByteString", "internal/bytealg.IndexString"], unfollowed := true, recurses := true, named := ["internal/bytealg.MaxLen"], apart := false, narrowed := true }
def FnExactReducedBanUptoSaid : Prop := fnExactReducedBanUptoRow.holds Try.pinned (OpenSpec.upto fnExactReducedBanSpec)

/-- 'laws.FnExactRuleLine', WHERE WHAT IT READS IS OF BULK AT MOST 1048576: true; the input reads as it did. -/
def fnExactRuleLineUptoRow : OpenClaim := { program := "ytcgomfbbbnfmnaa", sum := "c89056cca1dc9910380d510d3dcaea526bd1a51e21a5a8cfdad2c6e47d5677a3", func := "loop.example/g03209/laws.FnExactRuleLine", spec := "fnExactRuleLine", inPlace := ["internal/abi.NoEscape", "internal/bytealg.MakeNoZero"], recurses := true, apart := false, narrowed := true }
def FnExactRuleLineUptoSaid : Prop := fnExactRuleLineUptoRow.holds Try.pinned (OpenSpec.upto fnExactRuleLineSpec)

/-- 'laws.FnRepairs', WHERE WHAT IT READS IS OF BULK AT MOST 1048576: true; the input reads as it did. -/
def fnRepairsUptoRow : OpenClaim := { program := "ytcgomfbbbnfmnaa", sum := "c89056cca1dc9910380d510d3dcaea526bd1a51e21a5a8cfdad2c6e47d5677a3", func := "loop.example/g03209/laws.FnRepairs", spec := "fnRepairs", apart := false, narrowed := true }
def FnRepairsUptoSaid : Prop := fnRepairsUptoRow.holds Try.pinned (OpenSpec.upto fnRepairsSpec)

end Rows
end Go.Proofs.Ytcgomfbbbnfmnaa
