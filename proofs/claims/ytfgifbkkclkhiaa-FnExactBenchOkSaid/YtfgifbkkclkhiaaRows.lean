/-
  No cell of these rows narrows 'for every input' (looked for: loops, veiled, ifaces, maps, wideKeys, modest, calm, conditions, laid).
  DERIVED. THE GIVEN ROWS OF THIS SEAT. 10 by the template 'for every input the law returns true; each argument reads behind the call as it read before'; 0 by the template 'total and deterministic' (their statements: YtfgifbkkclkhiaaTotals.lean).
  GIVEN WITH THE SEED: the statements are not yours to turn. If you find one false, say at which input.
  Laid BY PROGRAM, IN A SANDBOX (cutbox-rows.mjs): the forced cells as the released guide's own fill.sh prints them over the translation 749e0aa5179c15ce… (all of the seat's roots in one cut). By AI agents, Wed Nov 11 2026. No macro, syntax, notation, axiom, sorry.
-/
import Derived.Test.YtfgifbkkclkhiaaChecked
import GoSem.Claim
import GoSem.ClaimJoined
import GoSem.ClaimMapViews
import Derived.JoinedTies
import Derived.KernelRfl
namespace Go.Proofs.Ytfgifbkkclkhiaa
/- THE CELL 'sum', in the pinned program and in every row, IS THE sha256 OF THE DUMP (.gsa) THAT YtfgifbkkclkhiaaProg.lean LOADS. Nothing in Lean hashes anything: it is a label: what it is worth is what the hold of that sum in a sandbox is worth. -/
noncomputable def Try.pinned : Pinned := { name := "ytfgifbkkclkhiaa", sum := "749e0aa5179c15ce1558a88eb7f00b7d72dbdae88d11e9090e15d3c088d5d88b", checked := Try.checked }
namespace Rows
def none {H : Type} : Left H := { results := [], args := [] }

/-- 'laws.FnExactAvoids': WHATEVER THE INPUT: true; the input reads as it did. -/
def fnExactAvoidsSpec : ChangeSpec := { name := "fnExactAvoids", fn := fun _ => fun
  | [d1, d2] => { results := [.lit (.bool true)], args := [d1, d2] }
  | _ => none }
def fnExactAvoidsRow : OpenClaim := { program := "ytfgifbkkclkhiaa", sum := "749e0aa5179c15ce1558a88eb7f00b7d72dbdae88d11e9090e15d3c088d5d88b", func := "loop.example/g03209/laws.FnExactAvoids", spec := "fnExactAvoids", inPlace := ["internal/bytealg.IndexByteString", "internal/bytealg.IndexString"], named := ["internal/bytealg.MaxLen"], apart := false }
def FnExactAvoidsSaid : Prop := fnExactAvoidsRow.holds Try.pinned (OpenSpec.ofChange fnExactAvoidsSpec)

/-- ITS FALSE NEIGHBOUR: 'it returns false'. Refute it at one input. -/
def fnExactAvoidsWrong : ChangeSpec := { name := "fnExactAvoids", fn := fun _ => fun
  | [d1, d2] => { results := [.lit (.bool false)], args := [d1, d2] }
  | _ => none }
def FnExactAvoidsWrongFalsely : Prop := fnExactAvoidsRow.holds Try.pinned (OpenSpec.ofChange fnExactAvoidsWrong)

/-- 'laws.FnExactBenchOk': WHATEVER THE INPUT: true; the input reads as it did. -/
def fnExactBenchOkSpec : ChangeSpec := { name := "fnExactBenchOk", fn := fun _ => fun
  | [d] => { results := [.lit (.bool true)], args := [d] }
  | _ => none }
def fnExactBenchOkRow : OpenClaim := { program := "ytfgifbkkclkhiaa", sum := "749e0aa5179c15ce1558a88eb7f00b7d72dbdae88d11e9090e15d3c088d5d88b", func := "loop.example/g03209/laws.FnExactBenchOk", spec := "fnExactBenchOk", apart := false }
def FnExactBenchOkSaid : Prop := fnExactBenchOkRow.holds Try.pinned (OpenSpec.ofChange fnExactBenchOkSpec)

/-- ITS FALSE NEIGHBOUR: 'it returns false'. Refute it at one input. -/
def fnExactBenchOkWrong : ChangeSpec := { name := "fnExactBenchOk", fn := fun _ => fun
  | [d] => { results := [.lit (.bool false)], args := [d] }
  | _ => none }
def FnExactBenchOkWrongFalsely : Prop := fnExactBenchOkRow.holds Try.pinned (OpenSpec.ofChange fnExactBenchOkWrong)

/-- 'laws.FnExactPartsLine': WHATEVER THE INPUT: true; the input reads as it did. -/
def fnExactPartsLineSpec : ChangeSpec := { name := "fnExactPartsLine", fn := fun _ => fun
  | [d] => { results := [.lit (.bool true)], args := [d] }
  | _ => none }
def fnExactPartsLineRow : OpenClaim := { program := "ytfgifbkkclkhiaa", sum := "749e0aa5179c15ce1558a88eb7f00b7d72dbdae88d11e9090e15d3c088d5d88b", func := "loop.example/g03209/laws.FnExactPartsLine", spec := "fnExactPartsLine", inPlace := ["internal/abi.NoEscape", "internal/bytealg.MakeNoZero"], apart := false }
def FnExactPartsLineSaid : Prop := fnExactPartsLineRow.holds Try.pinned (OpenSpec.ofChange fnExactPartsLineSpec)

/-- ITS FALSE NEIGHBOUR: 'it returns false'. Refute it at one input. -/
def fnExactPartsLineWrong : ChangeSpec := { name := "fnExactPartsLine", fn := fun _ => fun
  | [d] => { results := [.lit (.bool false)], args := [d] }
  | _ => none }
def FnExactPartsLineWrongFalsely : Prop := fnExactPartsLineRow.holds Try.pinned (OpenSpec.ofChange fnExactPartsLineWrong)

/-- 'laws.FnExactFewestChanges': WHATEVER THE INPUT: true; the input reads as it did. -/
def fnExactFewestChangesSpec : ChangeSpec := { name := "fnExactFewestChanges", fn := fun _ => fun
  | [d1, d2] => { results := [.lit (.bool true)], args := [d1, d2] }
  | _ => none }
def fnExactFewestChangesRow : OpenClaim := { program := "ytfgifbkkclkhiaa", sum := "749e0aa5179c15ce1558a88eb7f00b7d72dbdae88d11e9090e15d3c088d5d88b", func := "loop.example/g03209/laws.FnExactFewestChanges", spec := "fnExactFewestChanges", apart := false }
def FnExactFewestChangesSaid : Prop := fnExactFewestChangesRow.holds Try.pinned (OpenSpec.ofChange fnExactFewestChangesSpec)

/-- ITS FALSE NEIGHBOUR: 'it returns false'. Refute it at one input. -/
def fnExactFewestChangesWrong : ChangeSpec := { name := "fnExactFewestChanges", fn := fun _ => fun
  | [d1, d2] => { results := [.lit (.bool false)], args := [d1, d2] }
  | _ => none }
def FnExactFewestChangesWrongFalsely : Prop := fnExactFewestChangesRow.holds Try.pinned (OpenSpec.ofChange fnExactFewestChangesWrong)

/-- 'laws.FnExactFillGaps': WHATEVER THE INPUT: true; the input reads as it did. -/
def fnExactFillGapsSpec : ChangeSpec := { name := "fnExactFillGaps", fn := fun _ => fun
  | [d1, d2] => { results := [.lit (.bool true)], args := [d1, d2] }
  | _ => none }
def fnExactFillGapsRow : OpenClaim := { program := "ytfgifbkkclkhiaa", sum := "749e0aa5179c15ce1558a88eb7f00b7d72dbdae88d11e9090e15d3c088d5d88b", func := "loop.example/g03209/laws.FnExactFillGaps", spec := "fnExactFillGaps", apart := false }
def FnExactFillGapsSaid : Prop := fnExactFillGapsRow.holds Try.pinned (OpenSpec.ofChange fnExactFillGapsSpec)

/-- ITS FALSE NEIGHBOUR: 'it returns false'. Refute it at one input. -/
def fnExactFillGapsWrong : ChangeSpec := { name := "fnExactFillGaps", fn := fun _ => fun
  | [d1, d2] => { results := [.lit (.bool false)], args := [d1, d2] }
  | _ => none }
def FnExactFillGapsWrongFalsely : Prop := fnExactFillGapsRow.holds Try.pinned (OpenSpec.ofChange fnExactFillGapsWrong)

/-- 'laws.FnExactRepairWord': WHATEVER THE INPUT: true; the input reads as it did. -/
def fnExactRepairWordSpec : ChangeSpec := { name := "fnExactRepairWord", fn := fun _ => fun
  | [d1, d2] => { results := [.lit (.bool true)], args := [d1, d2] }
  | _ => none }
def fnExactRepairWordRow : OpenClaim := { program := "ytfgifbkkclkhiaa", sum := "749e0aa5179c15ce1558a88eb7f00b7d72dbdae88d11e9090e15d3c088d5d88b", func := "loop.example/g03209/laws.FnExactRepairWord", spec := "fnExactRepairWord", apart := false }
def FnExactRepairWordSaid : Prop := fnExactRepairWordRow.holds Try.pinned (OpenSpec.ofChange fnExactRepairWordSpec)

/-- ITS FALSE NEIGHBOUR: 'it returns false'. Refute it at one input. -/
def fnExactRepairWordWrong : ChangeSpec := { name := "fnExactRepairWord", fn := fun _ => fun
  | [d1, d2] => { results := [.lit (.bool false)], args := [d1, d2] }
  | _ => none }
def FnExactRepairWordWrongFalsely : Prop := fnExactRepairWordRow.holds Try.pinned (OpenSpec.ofChange fnExactRepairWordWrong)

/-- 'laws.FnExactReturnLine': WHATEVER THE INPUT: true; the input reads as it did. -/
def fnExactReturnLineSpec : ChangeSpec := { name := "fnExactReturnLine", fn := fun _ => fun
  | [d1, d2] => { results := [.lit (.bool true)], args := [d1, d2] }
  | _ => none }
def fnExactReturnLineRow : OpenClaim := { program := "ytfgifbkkclkhiaa", sum := "749e0aa5179c15ce1558a88eb7f00b7d72dbdae88d11e9090e15d3c088d5d88b", func := "loop.example/g03209/laws.FnExactReturnLine", spec := "fnExactReturnLine", inPlace := ["internal/abi.NoEscape", "internal/bytealg.MakeNoZero"], apart := false }
def FnExactReturnLineSaid : Prop := fnExactReturnLineRow.holds Try.pinned (OpenSpec.ofChange fnExactReturnLineSpec)

/-- ITS FALSE NEIGHBOUR: 'it returns false'. Refute it at one input. -/
def fnExactReturnLineWrong : ChangeSpec := { name := "fnExactReturnLine", fn := fun _ => fun
  | [d1, d2] => { results := [.lit (.bool false)], args := [d1, d2] }
  | _ => none }
def FnExactReturnLineWrongFalsely : Prop := fnExactReturnLineRow.holds Try.pinned (OpenSpec.ofChange fnExactReturnLineWrong)

/-- 'laws.FnExactIsUnavoidable': WHATEVER THE INPUT: true; the input reads as it did. -/
def fnExactIsUnavoidableSpec : ChangeSpec := { name := "fnExactIsUnavoidable", fn := fun _ => fun
  | [d1, d2] => { results := [.lit (.bool true)], args := [d1, d2] }
  | _ => none }
def fnExactIsUnavoidableRow : OpenClaim := { program := "ytfgifbkkclkhiaa", sum := "749e0aa5179c15ce1558a88eb7f00b7d72dbdae88d11e9090e15d3c088d5d88b", func := "loop.example/g03209/laws.FnExactIsUnavoidable", spec := "fnExactIsUnavoidable", inPlace := ["internal/bytealg.IndexByteString", "internal/bytealg.IndexString"], named := ["internal/bytealg.MaxLen"], apart := false }
def FnExactIsUnavoidableSaid : Prop := fnExactIsUnavoidableRow.holds Try.pinned (OpenSpec.ofChange fnExactIsUnavoidableSpec)

/-- ITS FALSE NEIGHBOUR: 'it returns false'. Refute it at one input. -/
def fnExactIsUnavoidableWrong : ChangeSpec := { name := "fnExactIsUnavoidable", fn := fun _ => fun
  | [d1, d2] => { results := [.lit (.bool false)], args := [d1, d2] }
  | _ => none }
def FnExactIsUnavoidableWrongFalsely : Prop := fnExactIsUnavoidableRow.holds Try.pinned (OpenSpec.ofChange fnExactIsUnavoidableWrong)

/-- 'laws.FnExactCountSmooth': WHATEVER THE INPUT: true; the input reads as it did. -/
def fnExactCountSmoothSpec : ChangeSpec := { name := "fnExactCountSmooth", fn := fun _ => fun
  | [d] => { results := [.lit (.bool true)], args := [d] }
  | _ => none }
def fnExactCountSmoothRow : OpenClaim := { program := "ytfgifbkkclkhiaa", sum := "749e0aa5179c15ce1558a88eb7f00b7d72dbdae88d11e9090e15d3c088d5d88b", func := "loop.example/g03209/laws.FnExactCountSmooth", spec := "fnExactCountSmooth", inPlace := ["internal/bytealg.IndexByteString", "internal/bytealg.IndexString"], named := ["internal/bytealg.MaxLen"], apart := false }
def FnExactCountSmoothSaid : Prop := fnExactCountSmoothRow.holds Try.pinned (OpenSpec.ofChange fnExactCountSmoothSpec)

/-- ITS FALSE NEIGHBOUR: 'it returns false'. Refute it at one input. -/
def fnExactCountSmoothWrong : ChangeSpec := { name := "fnExactCountSmooth", fn := fun _ => fun
  | [d] => { results := [.lit (.bool false)], args := [d] }
  | _ => none }
def FnExactCountSmoothWrongFalsely : Prop := fnExactCountSmoothRow.holds Try.pinned (OpenSpec.ofChange fnExactCountSmoothWrong)

/-- 'laws.FnExactSwapAB': WHATEVER THE INPUT: true; the input reads as it did. -/
def fnExactSwapABSpec : ChangeSpec := { name := "fnExactSwapAB", fn := fun _ => fun
  | [d] => { results := [.lit (.bool true)], args := [d] }
  | _ => none }
def fnExactSwapABRow : OpenClaim := { program := "ytfgifbkkclkhiaa", sum := "749e0aa5179c15ce1558a88eb7f00b7d72dbdae88d11e9090e15d3c088d5d88b", func := "loop.example/g03209/laws.FnExactSwapAB", spec := "fnExactSwapAB", inPlace := ["internal/bytealg.IndexByteString", "internal/bytealg.IndexString", "internal/bytealg.CountString"], named := ["internal/bytealg.MaxLen"], apart := false }
def FnExactSwapABSaid : Prop := fnExactSwapABRow.holds Try.pinned (OpenSpec.ofChange fnExactSwapABSpec)

/-- ITS FALSE NEIGHBOUR: 'it returns false'. Refute it at one input. -/
def fnExactSwapABWrong : ChangeSpec := { name := "fnExactSwapAB", fn := fun _ => fun
  | [d] => { results := [.lit (.bool false)], args := [d] }
  | _ => none }
def FnExactSwapABWrongFalsely : Prop := fnExactSwapABRow.holds Try.pinned (OpenSpec.ofChange fnExactSwapABWrong)

/- THE SECOND FORM. 'bulk': how many values and letters a reading holds, each counted each time it is reached (what is shared counts as often as it is met; a slice's spare places count too). A statement '..UptoSaid' is the law's where the arguments, and the package variables that the reading takes, are together of bulk at most 1048576: NARROWER than '..Said'. Prove '..Said' where nothing that the law and all that it calls make is longer than what came in: it says more and counts as full. Else prove '..UptoSaid'. A law counts once. -/
mutual
def uptoBulk {H : Type} : DataW H → Nat
  | .lit (.string bytes) => bytes.length + 1
  | .lit _ => 1
  | .nil => 1
  | .ptr d => uptoBulk d + 1
  | .slice elems spare => uptoBulkAll elems + uptoBulkAll spare + 1
  | .agg parts => uptoBulkAll parts + 1
  | .iface _ d => uptoBulk d + 1
  | .map entries => uptoBulkEntries entries + 1
  | .held _ => 1
def uptoBulkAll {H : Type} : List (DataW H) → Nat
  | [] => 0
  | d :: r => uptoBulk d + uptoBulkAll r
def uptoBulkEntries {H : Type} : List (Lit × DataW H) → Nat
  | [] => 0
  | x :: r => uptoBulkEntry x + uptoBulkEntries r
def uptoBulkEntry {H : Type} : Lit × DataW H → Nat
  | (.string bytes, d) => bytes.length + uptoBulk d + 1
  | (_, d) => uptoBulk d + 1
 end
def uptoSmall : (H : Type) → List (DataW H) → Bool := fun _ ds => decide (uptoBulkAll ds ≤ 1048576)
def OpenSpec.upto (s : _root_.Go.ChangeSpec) : _root_.Go.OpenSpec := { _root_.Go.OpenSpec.ofChange s with cond := some uptoSmall }

/-- 'laws.FnExactAvoids', WHERE WHAT IT READS IS OF BULK AT MOST 1048576: true; the input reads as it did. -/
def fnExactAvoidsUptoRow : OpenClaim := { program := "ytfgifbkkclkhiaa", sum := "749e0aa5179c15ce1558a88eb7f00b7d72dbdae88d11e9090e15d3c088d5d88b", func := "loop.example/g03209/laws.FnExactAvoids", spec := "fnExactAvoids", inPlace := ["internal/bytealg.IndexByteString", "internal/bytealg.IndexString"], named := ["internal/bytealg.MaxLen"], apart := false, narrowed := true }
def FnExactAvoidsUptoSaid : Prop := fnExactAvoidsUptoRow.holds Try.pinned (OpenSpec.upto fnExactAvoidsSpec)

/-- 'laws.FnExactBenchOk', WHERE WHAT IT READS IS OF BULK AT MOST 1048576: true; the input reads as it did. -/
def fnExactBenchOkUptoRow : OpenClaim := { program := "ytfgifbkkclkhiaa", sum := "749e0aa5179c15ce1558a88eb7f00b7d72dbdae88d11e9090e15d3c088d5d88b", func := "loop.example/g03209/laws.FnExactBenchOk", spec := "fnExactBenchOk", apart := false, narrowed := true }
def FnExactBenchOkUptoSaid : Prop := fnExactBenchOkUptoRow.holds Try.pinned (OpenSpec.upto fnExactBenchOkSpec)

/-- 'laws.FnExactPartsLine', WHERE WHAT IT READS IS OF BULK AT MOST 1048576: true; the input reads as it did. -/
def fnExactPartsLineUptoRow : OpenClaim := { program := "ytfgifbkkclkhiaa", sum := "749e0aa5179c15ce1558a88eb7f00b7d72dbdae88d11e9090e15d3c088d5d88b", func := "loop.example/g03209/laws.FnExactPartsLine", spec := "fnExactPartsLine", inPlace := ["internal/abi.NoEscape", "internal/bytealg.MakeNoZero"], apart := false, narrowed := true }
def FnExactPartsLineUptoSaid : Prop := fnExactPartsLineUptoRow.holds Try.pinned (OpenSpec.upto fnExactPartsLineSpec)

/-- 'laws.FnExactFewestChanges', WHERE WHAT IT READS IS OF BULK AT MOST 1048576: true; the input reads as it did. -/
def fnExactFewestChangesUptoRow : OpenClaim := { program := "ytfgifbkkclkhiaa", sum := "749e0aa5179c15ce1558a88eb7f00b7d72dbdae88d11e9090e15d3c088d5d88b", func := "loop.example/g03209/laws.FnExactFewestChanges", spec := "fnExactFewestChanges", apart := false, narrowed := true }
def FnExactFewestChangesUptoSaid : Prop := fnExactFewestChangesUptoRow.holds Try.pinned (OpenSpec.upto fnExactFewestChangesSpec)

/-- 'laws.FnExactFillGaps', WHERE WHAT IT READS IS OF BULK AT MOST 1048576: true; the input reads as it did. -/
def fnExactFillGapsUptoRow : OpenClaim := { program := "ytfgifbkkclkhiaa", sum := "749e0aa5179c15ce1558a88eb7f00b7d72dbdae88d11e9090e15d3c088d5d88b", func := "loop.example/g03209/laws.FnExactFillGaps", spec := "fnExactFillGaps", apart := false, narrowed := true }
def FnExactFillGapsUptoSaid : Prop := fnExactFillGapsUptoRow.holds Try.pinned (OpenSpec.upto fnExactFillGapsSpec)

/-- 'laws.FnExactRepairWord', WHERE WHAT IT READS IS OF BULK AT MOST 1048576: true; the input reads as it did. -/
def fnExactRepairWordUptoRow : OpenClaim := { program := "ytfgifbkkclkhiaa", sum := "749e0aa5179c15ce1558a88eb7f00b7d72dbdae88d11e9090e15d3c088d5d88b", func := "loop.example/g03209/laws.FnExactRepairWord", spec := "fnExactRepairWord", apart := false, narrowed := true }
def FnExactRepairWordUptoSaid : Prop := fnExactRepairWordUptoRow.holds Try.pinned (OpenSpec.upto fnExactRepairWordSpec)

/-- 'laws.FnExactReturnLine', WHERE WHAT IT READS IS OF BULK AT MOST 1048576: true; the input reads as it did. -/
def fnExactReturnLineUptoRow : OpenClaim := { program := "ytfgifbkkclkhiaa", sum := "749e0aa5179c15ce1558a88eb7f00b7d72dbdae88d11e9090e15d3c088d5d88b", func := "loop.example/g03209/laws.FnExactReturnLine", spec := "fnExactReturnLine", inPlace := ["internal/abi.NoEscape", "internal/bytealg.MakeNoZero"], apart := false, narrowed := true }
def FnExactReturnLineUptoSaid : Prop := fnExactReturnLineUptoRow.holds Try.pinned (OpenSpec.upto fnExactReturnLineSpec)

/-- 'laws.FnExactIsUnavoidable', WHERE WHAT IT READS IS OF BULK AT MOST 1048576: true; the input reads as it did. -/
def fnExactIsUnavoidableUptoRow : OpenClaim := { program := "ytfgifbkkclkhiaa", sum := "749e0aa5179c15ce1558a88eb7f00b7d72dbdae88d11e9090e15d3c088d5d88b", func := "loop.example/g03209/laws.FnExactIsUnavoidable", spec := "fnExactIsUnavoidable", inPlace := ["internal/bytealg.IndexByteString", "internal/bytealg.IndexString"], named := ["internal/bytealg.MaxLen"], apart := false, narrowed := true }
def FnExactIsUnavoidableUptoSaid : Prop := fnExactIsUnavoidableUptoRow.holds Try.pinned (OpenSpec.upto fnExactIsUnavoidableSpec)

/-- 'laws.FnExactCountSmooth', WHERE WHAT IT READS IS OF BULK AT MOST 1048576: true; the input reads as it did. -/
def fnExactCountSmoothUptoRow : OpenClaim := { program := "ytfgifbkkclkhiaa", sum := "749e0aa5179c15ce1558a88eb7f00b7d72dbdae88d11e9090e15d3c088d5d88b", func := "loop.example/g03209/laws.FnExactCountSmooth", spec := "fnExactCountSmooth", inPlace := ["internal/bytealg.IndexByteString", "internal/bytealg.IndexString"], named := ["internal/bytealg.MaxLen"], apart := false, narrowed := true }
def FnExactCountSmoothUptoSaid : Prop := fnExactCountSmoothUptoRow.holds Try.pinned (OpenSpec.upto fnExactCountSmoothSpec)

/-- 'laws.FnExactSwapAB', WHERE WHAT IT READS IS OF BULK AT MOST 1048576: true; the input reads as it did. -/
def fnExactSwapABUptoRow : OpenClaim := { program := "ytfgifbkkclkhiaa", sum := "749e0aa5179c15ce1558a88eb7f00b7d72dbdae88d11e9090e15d3c088d5d88b", func := "loop.example/g03209/laws.FnExactSwapAB", spec := "fnExactSwapAB", inPlace := ["internal/bytealg.IndexByteString", "internal/bytealg.IndexString", "internal/bytealg.CountString"], named := ["internal/bytealg.MaxLen"], apart := false, narrowed := true }
def FnExactSwapABUptoSaid : Prop := fnExactSwapABUptoRow.holds Try.pinned (OpenSpec.upto fnExactSwapABSpec)

end Rows
end Go.Proofs.Ytfgifbkkclkhiaa
