/-
  No cell of these rows narrows 'for every input' (looked for: loops, veiled, ifaces, maps, wideKeys, modest, calm, conditions, laid).
  DERIVED. THE GIVEN ROWS OF THIS SEAT. 3 by the template 'for every input the law returns true; each argument reads behind the call as it read before'; 0 by the template 'total and deterministic' (their statements: YtfjmopiofcbpgaaTotals.lean).
  GIVEN WITH THE SEED: the statements are not yours to turn. If you find one false, say at which input.
  Laid BY PROGRAM, IN A SANDBOX (cutbox-rows.mjs): the forced cells as the released guide's own fill.sh prints them over the translation d54dd53faa7459eb… (all of the seat's roots in one cut). By AI agents, Wed Nov 11 2026. No macro, syntax, notation, axiom, sorry.
-/
import Derived.Test.YtfjmopiofcbpgaaChecked
import GoSem.Claim
import GoSem.ClaimJoined
import GoSem.ClaimMapViews
import Derived.JoinedTies
import Derived.KernelRfl
namespace Go.Proofs.Ytfjmopiofcbpgaa
/- THE CELL 'sum', in the pinned program and in every row, IS THE sha256 OF THE DUMP (.gsa) THAT YtfjmopiofcbpgaaProg.lean LOADS. Nothing in Lean hashes anything: it is a label: what it is worth is what the hold of that sum in a sandbox is worth. -/
noncomputable def Try.pinned : Pinned := { name := "ytfjmopiofcbpgaa", sum := "d54dd53faa7459eb639088e302120126177c4ff477a59471dffbdc3ffd855dfc", checked := Try.checked }
namespace Rows
def none {H : Type} : Left H := { results := [], args := [] }

/-- 'laws.FnRuns': WHATEVER THE INPUT: true; the input reads as it did. -/
def fnRunsSpec : ChangeSpec := { name := "fnRuns", fn := fun _ => fun
  | [d] => { results := [.lit (.bool true)], args := [d] }
  | _ => none }
def fnRunsRow : OpenClaim := { program := "ytfjmopiofcbpgaa", sum := "d54dd53faa7459eb639088e302120126177c4ff477a59471dffbdc3ffd855dfc", func := "loop.example/g03209/laws.FnRuns", spec := "fnRuns", inPlace := ["internal/bytealg.IndexByteString", "internal/bytealg.IndexString", "internal/bytealg.CountString", "internal/abi.NoEscape", "internal/bytealg.MakeNoZero"], named := ["internal/bytealg.MaxLen"], apart := false }
def FnRunsSaid : Prop := fnRunsRow.holds Try.pinned (OpenSpec.ofChange fnRunsSpec)

/-- ITS FALSE NEIGHBOUR: 'it returns false'. Refute it at one input. -/
def fnRunsWrong : ChangeSpec := { name := "fnRuns", fn := fun _ => fun
  | [d] => { results := [.lit (.bool false)], args := [d] }
  | _ => none }
def FnRunsWrongFalsely : Prop := fnRunsRow.holds Try.pinned (OpenSpec.ofChange fnRunsWrong)

/-- 'laws.FnNearness': WHATEVER THE INPUT: true; the input reads as it did. -/
def fnNearnessSpec : ChangeSpec := { name := "fnNearness", fn := fun _ => fun
  | [d] => { results := [.lit (.bool true)], args := [d] }
  | _ => none }
def fnNearnessRow : OpenClaim := { program := "ytfjmopiofcbpgaa", sum := "d54dd53faa7459eb639088e302120126177c4ff477a59471dffbdc3ffd855dfc", func := "loop.example/g03209/laws.FnNearness", spec := "fnNearness", inPlace := ["internal/bytealg.IndexByteString", "internal/bytealg.IndexString"], recurses := true, named := ["internal/bytealg.MaxLen"], apart := false }
def FnNearnessSaid : Prop := fnNearnessRow.holds Try.pinned (OpenSpec.ofChange fnNearnessSpec)

/-- ITS FALSE NEIGHBOUR: 'it returns false'. Refute it at one input. -/
def fnNearnessWrong : ChangeSpec := { name := "fnNearness", fn := fun _ => fun
  | [d] => { results := [.lit (.bool false)], args := [d] }
  | _ => none }
def FnNearnessWrongFalsely : Prop := fnNearnessRow.holds Try.pinned (OpenSpec.ofChange fnNearnessWrong)

/-- 'laws.FnRepairs': WHATEVER THE INPUT: true; the input reads as it did. -/
def fnRepairsSpec : ChangeSpec := { name := "fnRepairs", fn := fun _ => fun
  | [d] => { results := [.lit (.bool true)], args := [d] }
  | _ => none }
def fnRepairsRow : OpenClaim := { program := "ytfjmopiofcbpgaa", sum := "d54dd53faa7459eb639088e302120126177c4ff477a59471dffbdc3ffd855dfc", func := "loop.example/g03209/laws.FnRepairs", spec := "fnRepairs", apart := false }
def FnRepairsSaid : Prop := fnRepairsRow.holds Try.pinned (OpenSpec.ofChange fnRepairsSpec)

/-- ITS FALSE NEIGHBOUR: 'it returns false'. Refute it at one input. -/
def fnRepairsWrong : ChangeSpec := { name := "fnRepairs", fn := fun _ => fun
  | [d] => { results := [.lit (.bool false)], args := [d] }
  | _ => none }
def FnRepairsWrongFalsely : Prop := fnRepairsRow.holds Try.pinned (OpenSpec.ofChange fnRepairsWrong)

/- THE SECOND FORM. 'bulk': how many values and letters a reading holds, each counted each time it is reached (what is shared counts as often as it is met; a slice's spare places count too). A statement '..UptoSaid' is the law's where the arguments, and the package variables that the reading takes, are together of bulk at most 1048576: NARROWER than '..Said'. Prove '..Said' where nothing that the law and all that it calls make is longer than what came in: it says more and counts as full. Else prove '..UptoSaid'. A law counts once. -/
mutual
def uptoBulk {H : Type} : DataW H → Nat
  | .lit (.string bytes) => bytes.length + 1
  | .lit _ => 1
  | .nil => 1
  | .ptr d => uptoBulk d + 1
  | .slice elems spare => uptoBulkAll elems + uptoBulkAll spare + 1
  | .agg parts => uptoBulkAll parts + 1
  | .iface _ d => uptoBulk d + 1
  | .map entries => uptoBulkEntries entries + 1
  | .held _ => 1
def uptoBulkAll {H : Type} : List (DataW H) → Nat
  | [] => 0
  | d :: r => uptoBulk d + uptoBulkAll r
def uptoBulkEntries {H : Type} : List (Lit × DataW H) → Nat
  | [] => 0
  | x :: r => uptoBulkEntry x + uptoBulkEntries r
def uptoBulkEntry {H : Type} : Lit × DataW H → Nat
  | (.string bytes, d) => bytes.length + uptoBulk d + 1
  | (_, d) => uptoBulk d + 1
 end
def uptoSmall : (H : Type) → List (DataW H) → Bool := fun _ ds => decide (uptoBulkAll ds ≤ 1048576)
def OpenSpec.upto (s : _root_.Go.ChangeSpec) : _root_.Go.OpenSpec := { _root_.Go.OpenSpec.ofChange s with cond := some uptoSmall }

/-- 'laws.FnRuns', WHERE WHAT IT READS IS OF BULK AT MOST 1048576: true; the input reads as it did. -/
def fnRunsUptoRow : OpenClaim := { program := "ytfjmopiofcbpgaa", sum := "d54dd53faa7459eb639088e302120126177c4ff477a59471dffbdc3ffd855dfc", func := "loop.example/g03209/laws.FnRuns", spec := "fnRuns", inPlace := ["internal/bytealg.IndexByteString", "internal/bytealg.IndexString", "internal/bytealg.CountString", "internal/abi.NoEscape", "internal/bytealg.MakeNoZero"], named := ["internal/bytealg.MaxLen"], apart := false, narrowed := true }
def FnRunsUptoSaid : Prop := fnRunsUptoRow.holds Try.pinned (OpenSpec.upto fnRunsSpec)

/-- 'laws.FnNearness', WHERE WHAT IT READS IS OF BULK AT MOST 1048576: true; the input reads as it did. -/
def fnNearnessUptoRow : OpenClaim := { program := "ytfjmopiofcbpgaa", sum := "d54dd53faa7459eb639088e302120126177c4ff477a59471dffbdc3ffd855dfc", func := "loop.example/g03209/laws.FnNearness", spec := "fnNearness", inPlace := ["internal/bytealg.IndexByteString", "internal/bytealg.IndexString"], recurses := true, named := ["internal/bytealg.MaxLen"], apart := false, narrowed := true }
def FnNearnessUptoSaid : Prop := fnNearnessUptoRow.holds Try.pinned (OpenSpec.upto fnNearnessSpec)

/-- 'laws.FnRepairs', WHERE WHAT IT READS IS OF BULK AT MOST 1048576: true; the input reads as it did. -/
def fnRepairsUptoRow : OpenClaim := { program := "ytfjmopiofcbpgaa", sum := "d54dd53faa7459eb639088e302120126177c4ff477a59471dffbdc3ffd855dfc", func := "loop.example/g03209/laws.FnRepairs", spec := "fnRepairs", apart := false, narrowed := true }
def FnRepairsUptoSaid : Prop := fnRepairsUptoRow.holds Try.pinned (OpenSpec.upto fnRepairsSpec)

end Rows
end Go.Proofs.Ytfjmopiofcbpgaa
