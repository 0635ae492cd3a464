/-
  No cell of these rows narrows 'for every input' (looked for: loops, veiled, ifaces, maps, wideKeys, modest, calm, conditions, laid).
  DERIVED. THE GIVEN ROWS OF THIS SEAT. 12 by the template 'for every input the law returns true; each argument reads behind the call as it read before'; 0 by the template 'total and deterministic' (their statements: YtiaikjhbomohgaaTotals.lean).
  GIVEN WITH THE SEED: the statements are not yours to turn. If you find one false, say at which input.
  Laid BY PROGRAM, IN A SANDBOX (cutbox-rows.mjs): the forced cells as the released guide's own fill.sh prints them over the translation 65a2fcabd903ea57… (all of the seat's roots in one cut). By AI agents, Wed Nov 11 2026. No macro, syntax, notation, axiom, sorry.
-/
import Derived.Test.YtiaikjhbomohgaaChecked
import GoSem.Claim
import GoSem.ClaimJoined
import GoSem.ClaimMapViews
import Derived.JoinedTies
import Derived.KernelRfl
namespace Go.Proofs.Ytiaikjhbomohgaa
/- THE CELL 'sum', in the pinned program and in every row, IS THE sha256 OF THE DUMP (.gsa) THAT YtiaikjhbomohgaaProg.lean LOADS. Nothing in Lean hashes anything: it is a label: what it is worth is what the hold of that sum in a sandbox is worth. -/
noncomputable def Try.pinned : Pinned := { name := "ytiaikjhbomohgaa", sum := "65a2fcabd903ea57b7bd81acae572e22dfcf4c2240aea7e5bd899ba65818396e", checked := Try.checked }
namespace Rows
def none {H : Type} : Left H := { results := [], args := [] }

/-- 'laws.FnExactAgreementsOf': WHATEVER THE INPUT: true; the input reads as it did. -/
def fnExactAgreementsOfSpec : ChangeSpec := { name := "fnExactAgreementsOf", fn := fun _ => fun
  | [d] => { results := [.lit (.bool true)], args := [d] }
  | _ => none }
def fnExactAgreementsOfRow : OpenClaim := { program := "ytiaikjhbomohgaa", sum := "65a2fcabd903ea57b7bd81acae572e22dfcf4c2240aea7e5bd899ba65818396e", func := "loop.example/g03209/laws.FnExactAgreementsOf", spec := "fnExactAgreementsOf", apart := false }
def FnExactAgreementsOfSaid : Prop := fnExactAgreementsOfRow.holds Try.pinned (OpenSpec.ofChange fnExactAgreementsOfSpec)

/-- ITS FALSE NEIGHBOUR: 'it returns false'. Refute it at one input. -/
def fnExactAgreementsOfWrong : ChangeSpec := { name := "fnExactAgreementsOf", fn := fun _ => fun
  | [d] => { results := [.lit (.bool false)], args := [d] }
  | _ => none }
def FnExactAgreementsOfWrongFalsely : Prop := fnExactAgreementsOfRow.holds Try.pinned (OpenSpec.ofChange fnExactAgreementsOfWrong)

/-- 'laws.FnExactBestMove': WHATEVER THE INPUT: true; the input reads as it did. -/
def fnExactBestMoveSpec : ChangeSpec := { name := "fnExactBestMove", fn := fun _ => fun
  | [d1, d2] => { results := [.lit (.bool true)], args := [d1, d2] }
  | _ => none }
def fnExactBestMoveRow : OpenClaim := { program := "ytiaikjhbomohgaa", sum := "65a2fcabd903ea57b7bd81acae572e22dfcf4c2240aea7e5bd899ba65818396e", func := "loop.example/g03209/laws.FnExactBestMove", spec := "fnExactBestMove", apart := false }
def FnExactBestMoveSaid : Prop := fnExactBestMoveRow.holds Try.pinned (OpenSpec.ofChange fnExactBestMoveSpec)

/-- ITS FALSE NEIGHBOUR: 'it returns false'. Refute it at one input. -/
def fnExactBestMoveWrong : ChangeSpec := { name := "fnExactBestMove", fn := fun _ => fun
  | [d1, d2] => { results := [.lit (.bool false)], args := [d1, d2] }
  | _ => none }
def FnExactBestMoveWrongFalsely : Prop := fnExactBestMoveRow.holds Try.pinned (OpenSpec.ofChange fnExactBestMoveWrong)

/-- 'laws.FnExactCountAllowed': WHATEVER THE INPUT: true; the input reads as it did. -/
def fnExactCountAllowedSpec : ChangeSpec := { name := "fnExactCountAllowed", fn := fun _ => fun
  | [d1, d2] => { results := [.lit (.bool true)], args := [d1, d2] }
  | _ => none }
def fnExactCountAllowedRow : OpenClaim := { program := "ytiaikjhbomohgaa", sum := "65a2fcabd903ea57b7bd81acae572e22dfcf4c2240aea7e5bd899ba65818396e", func := "loop.example/g03209/laws.FnExactCountAllowed", spec := "fnExactCountAllowed", apart := false }
def FnExactCountAllowedSaid : Prop := fnExactCountAllowedRow.holds Try.pinned (OpenSpec.ofChange fnExactCountAllowedSpec)

/-- ITS FALSE NEIGHBOUR: 'it returns false'. Refute it at one input. -/
def fnExactCountAllowedWrong : ChangeSpec := { name := "fnExactCountAllowed", fn := fun _ => fun
  | [d1, d2] => { results := [.lit (.bool false)], args := [d1, d2] }
  | _ => none }
def FnExactCountAllowedWrongFalsely : Prop := fnExactCountAllowedRow.holds Try.pinned (OpenSpec.ofChange fnExactCountAllowedWrong)

/-- 'laws.FnExactFaultAt': WHATEVER THE INPUT: true; the input reads as it did. -/
def fnExactFaultAtSpec : ChangeSpec := { name := "fnExactFaultAt", fn := fun _ => fun
  | [d1, d2] => { results := [.lit (.bool true)], args := [d1, d2] }
  | _ => none }
def fnExactFaultAtRow : OpenClaim := { program := "ytiaikjhbomohgaa", sum := "65a2fcabd903ea57b7bd81acae572e22dfcf4c2240aea7e5bd899ba65818396e", func := "loop.example/g03209/laws.FnExactFaultAt", spec := "fnExactFaultAt", apart := false }
def FnExactFaultAtSaid : Prop := fnExactFaultAtRow.holds Try.pinned (OpenSpec.ofChange fnExactFaultAtSpec)

/-- ITS FALSE NEIGHBOUR: 'it returns false'. Refute it at one input. -/
def fnExactFaultAtWrong : ChangeSpec := { name := "fnExactFaultAt", fn := fun _ => fun
  | [d1, d2] => { results := [.lit (.bool false)], args := [d1, d2] }
  | _ => none }
def FnExactFaultAtWrongFalsely : Prop := fnExactFaultAtRow.holds Try.pinned (OpenSpec.ofChange fnExactFaultAtWrong)

/-- 'laws.FnExactIndexOf': WHATEVER THE INPUT: true; the input reads as it did. -/
def fnExactIndexOfSpec : ChangeSpec := { name := "fnExactIndexOf", fn := fun _ => fun
  | [d] => { results := [.lit (.bool true)], args := [d] }
  | _ => none }
def fnExactIndexOfRow : OpenClaim := { program := "ytiaikjhbomohgaa", sum := "65a2fcabd903ea57b7bd81acae572e22dfcf4c2240aea7e5bd899ba65818396e", func := "loop.example/g03209/laws.FnExactIndexOf", spec := "fnExactIndexOf", unfollowed := true, recurses := true, apart := false }
def FnExactIndexOfSaid : Prop := fnExactIndexOfRow.holds Try.pinned (OpenSpec.ofChange fnExactIndexOfSpec)

/-- ITS FALSE NEIGHBOUR: 'it returns false'. Refute it at one input. -/
def fnExactIndexOfWrong : ChangeSpec := { name := "fnExactIndexOf", fn := fun _ => fun
  | [d] => { results := [.lit (.bool false)], args := [d] }
  | _ => none }
def FnExactIndexOfWrongFalsely : Prop := fnExactIndexOfRow.holds Try.pinned (OpenSpec.ofChange fnExactIndexOfWrong)

/-- 'laws.FnExactIsAllowed': WHATEVER THE INPUT: true; the input reads as it did. -/
def fnExactIsAllowedSpec : ChangeSpec := { name := "fnExactIsAllowed", fn := fun _ => fun
  | [d1, d2] => { results := [.lit (.bool true)], args := [d1, d2] }
  | _ => none }
def fnExactIsAllowedRow : OpenClaim := { program := "ytiaikjhbomohgaa", sum := "65a2fcabd903ea57b7bd81acae572e22dfcf4c2240aea7e5bd899ba65818396e", func := "loop.example/g03209/laws.FnExactIsAllowed", spec := "fnExactIsAllowed", apart := false }
def FnExactIsAllowedSaid : Prop := fnExactIsAllowedRow.holds Try.pinned (OpenSpec.ofChange fnExactIsAllowedSpec)

/-- ITS FALSE NEIGHBOUR: 'it returns false'. Refute it at one input. -/
def fnExactIsAllowedWrong : ChangeSpec := { name := "fnExactIsAllowed", fn := fun _ => fun
  | [d1, d2] => { results := [.lit (.bool false)], args := [d1, d2] }
  | _ => none }
def FnExactIsAllowedWrongFalsely : Prop := fnExactIsAllowedRow.holds Try.pinned (OpenSpec.ofChange fnExactIsAllowedWrong)

/-- 'laws.FnExactLongestAllowed': WHATEVER THE INPUT: true; the input reads as it did. -/
def fnExactLongestAllowedSpec : ChangeSpec := { name := "fnExactLongestAllowed", fn := fun _ => fun
  | [d] => { results := [.lit (.bool true)], args := [d] }
  | _ => none }
def fnExactLongestAllowedRow : OpenClaim := { program := "ytiaikjhbomohgaa", sum := "65a2fcabd903ea57b7bd81acae572e22dfcf4c2240aea7e5bd899ba65818396e", func := "loop.example/g03209/laws.FnExactLongestAllowed", spec := "fnExactLongestAllowed", apart := false }
def FnExactLongestAllowedSaid : Prop := fnExactLongestAllowedRow.holds Try.pinned (OpenSpec.ofChange fnExactLongestAllowedSpec)

/-- ITS FALSE NEIGHBOUR: 'it returns false'. Refute it at one input. -/
def fnExactLongestAllowedWrong : ChangeSpec := { name := "fnExactLongestAllowed", fn := fun _ => fun
  | [d] => { results := [.lit (.bool false)], args := [d] }
  | _ => none }
def FnExactLongestAllowedWrongFalsely : Prop := fnExactLongestAllowedRow.holds Try.pinned (OpenSpec.ofChange fnExactLongestAllowedWrong)

/-- 'laws.FnExactTurnBan': WHATEVER THE INPUT: true; the input reads as it did. -/
def fnExactTurnBanSpec : ChangeSpec := { name := "fnExactTurnBan", fn := fun _ => fun
  | [d] => { results := [.lit (.bool true)], args := [d] }
  | _ => none }
def fnExactTurnBanRow : OpenClaim := { program := "ytiaikjhbomohgaa", sum := "65a2fcabd903ea57b7bd81acae572e22dfcf4c2240aea7e5bd899ba65818396e", func := "loop.example/g03209/laws.FnExactTurnBan", spec := "fnExactTurnBan", apart := false }
def FnExactTurnBanSaid : Prop := fnExactTurnBanRow.holds Try.pinned (OpenSpec.ofChange fnExactTurnBanSpec)

/-- ITS FALSE NEIGHBOUR: 'it returns false'. Refute it at one input. -/
def fnExactTurnBanWrong : ChangeSpec := { name := "fnExactTurnBan", fn := fun _ => fun
  | [d] => { results := [.lit (.bool false)], args := [d] }
  | _ => none }
def FnExactTurnBanWrongFalsely : Prop := fnExactTurnBanRow.holds Try.pinned (OpenSpec.ofChange fnExactTurnBanWrong)

/-- 'laws.FnExactBenchOk': WHATEVER THE INPUT: true; the input reads as it did. -/
def fnExactBenchOkSpec : ChangeSpec := { name := "fnExactBenchOk", fn := fun _ => fun
  | [d] => { results := [.lit (.bool true)], args := [d] }
  | _ => none }
def fnExactBenchOkRow : OpenClaim := { program := "ytiaikjhbomohgaa", sum := "65a2fcabd903ea57b7bd81acae572e22dfcf4c2240aea7e5bd899ba65818396e", func := "loop.example/g03209/laws.FnExactBenchOk", spec := "fnExactBenchOk", apart := false }
def FnExactBenchOkSaid : Prop := fnExactBenchOkRow.holds Try.pinned (OpenSpec.ofChange fnExactBenchOkSpec)

/-- ITS FALSE NEIGHBOUR: 'it returns false'. Refute it at one input. -/
def fnExactBenchOkWrong : ChangeSpec := { name := "fnExactBenchOk", fn := fun _ => fun
  | [d] => { results := [.lit (.bool false)], args := [d] }
  | _ => none }
def FnExactBenchOkWrongFalsely : Prop := fnExactBenchOkRow.holds Try.pinned (OpenSpec.ofChange fnExactBenchOkWrong)

/-- 'laws.FnExactLowerWord': WHATEVER THE INPUT: true; the input reads as it did. -/
def fnExactLowerWordSpec : ChangeSpec := { name := "fnExactLowerWord", fn := fun _ => fun
  | [d] => { results := [.lit (.bool true)], args := [d] }
  | _ => none }
def fnExactLowerWordRow : OpenClaim := { program := "ytiaikjhbomohgaa", sum := "65a2fcabd903ea57b7bd81acae572e22dfcf4c2240aea7e5bd899ba65818396e", func := "loop.example/g03209/laws.FnExactLowerWord", spec := "fnExactLowerWord", unfollowed := true, recurses := true, apart := false }
def FnExactLowerWordSaid : Prop := fnExactLowerWordRow.holds Try.pinned (OpenSpec.ofChange fnExactLowerWordSpec)

/-- ITS FALSE NEIGHBOUR: 'it returns false'. Refute it at one input. -/
def fnExactLowerWordWrong : ChangeSpec := { name := "fnExactLowerWord", fn := fun _ => fun
  | [d] => { results := [.lit (.bool false)], args := [d] }
  | _ => none }
def FnExactLowerWordWrongFalsely : Prop := fnExactLowerWordRow.holds Try.pinned (OpenSpec.ofChange fnExactLowerWordWrong)

/-- 'laws.FnExactPartsLine': WHATEVER THE INPUT: true; the input reads as it did. -/
def fnExactPartsLineSpec : ChangeSpec := { name := "fnExactPartsLine", fn := fun _ => fun
  | [d] => { results := [.lit (.bool true)], args := [d] }
  | _ => none }
def fnExactPartsLineRow : OpenClaim := { program := "ytiaikjhbomohgaa", sum := "65a2fcabd903ea57b7bd81acae572e22dfcf4c2240aea7e5bd899ba65818396e", func := "loop.example/g03209/laws.FnExactPartsLine", spec := "fnExactPartsLine", inPlace := ["internal/abi.NoEscape", "internal/bytealg.MakeNoZero"], apart := false }
def FnExactPartsLineSaid : Prop := fnExactPartsLineRow.holds Try.pinned (OpenSpec.ofChange fnExactPartsLineSpec)

/-- ITS FALSE NEIGHBOUR: 'it returns false'. Refute it at one input. -/
def fnExactPartsLineWrong : ChangeSpec := { name := "fnExactPartsLine", fn := fun _ => fun
  | [d] => { results := [.lit (.bool false)], args := [d] }
  | _ => none }
def FnExactPartsLineWrongFalsely : Prop := fnExactPartsLineRow.holds Try.pinned (OpenSpec.ofChange fnExactPartsLineWrong)

/-- 'laws.FnExactAvoids': WHATEVER THE INPUT: true; the input reads as it did. -/
def fnExactAvoidsSpec : ChangeSpec := { name := "fnExactAvoids", fn := fun _ => fun
  | [d1, d2] => { results := [.lit (.bool true)], args := [d1, d2] }
  | _ => none }
def fnExactAvoidsRow : OpenClaim := { program := "ytiaikjhbomohgaa", sum := "65a2fcabd903ea57b7bd81acae572e22dfcf4c2240aea7e5bd899ba65818396e", func := "loop.example/g03209/laws.FnExactAvoids", spec := "fnExactAvoids", inPlace := ["internal/bytealg.IndexByteString", "internal/bytealg.IndexString"], named := ["internal/bytealg.MaxLen"], apart := false }
def FnExactAvoidsSaid : Prop := fnExactAvoidsRow.holds Try.pinned (OpenSpec.ofChange fnExactAvoidsSpec)

/-- ITS FALSE NEIGHBOUR: 'it returns false'. Refute it at one input. -/
def fnExactAvoidsWrong : ChangeSpec := { name := "fnExactAvoids", fn := fun _ => fun
  | [d1, d2] => { results := [.lit (.bool false)], args := [d1, d2] }
  | _ => none }
def FnExactAvoidsWrongFalsely : Prop := fnExactAvoidsRow.holds Try.pinned (OpenSpec.ofChange fnExactAvoidsWrong)

/- THE SECOND FORM. 'bulk': how many values and letters a reading holds, each counted each time it is reached (what is shared counts as often as it is met; a slice's spare places count too). A statement '..UptoSaid' is the law's where the arguments, and the package variables that the reading takes, are together of bulk at most 1048576: NARROWER than '..Said'. Prove '..Said' where nothing that the law and all that it calls make is longer than what came in: it says more and counts as full. Else prove '..UptoSaid'. A law counts once. -/
mutual
def uptoBulk {H : Type} : DataW H → Nat
  | .lit (.string bytes) => bytes.length + 1
  | .lit _ => 1
  | .nil => 1
  | .ptr d => uptoBulk d + 1
  | .slice elems spare => uptoBulkAll elems + uptoBulkAll spare + 1
  | .agg parts => uptoBulkAll parts + 1
  | .iface _ d => uptoBulk d + 1
  | .map entries => uptoBulkEntries entries + 1
  | .held _ => 1
def uptoBulkAll {H : Type} : List (DataW H) → Nat
  | [] => 0
  | d :: r => uptoBulk d + uptoBulkAll r
def uptoBulkEntries {H : Type} : List (Lit × DataW H) → Nat
  | [] => 0
  | x :: r => uptoBulkEntry x + uptoBulkEntries r
def uptoBulkEntry {H : Type} : Lit × DataW H → Nat
  | (.string bytes, d) => bytes.length + uptoBulk d + 1
  | (_, d) => uptoBulk d + 1
 end
def uptoSmall : (H : Type) → List (DataW H) → Bool := fun _ ds => decide (uptoBulkAll ds ≤ 1048576)
def OpenSpec.upto (s : _root_.Go.ChangeSpec) : _root_.Go.OpenSpec := { _root_.Go.OpenSpec.ofChange s with cond := some uptoSmall }

/-- 'laws.FnExactAgreementsOf', WHERE WHAT IT READS IS OF BULK AT MOST 1048576: true; the input reads as it did. -/
def fnExactAgreementsOfUptoRow : OpenClaim := { program := "ytiaikjhbomohgaa", sum := "65a2fcabd903ea57b7bd81acae572e22dfcf4c2240aea7e5bd899ba65818396e", func := "loop.example/g03209/laws.FnExactAgreementsOf", spec := "fnExactAgreementsOf", apart := false, narrowed := true }
def FnExactAgreementsOfUptoSaid : Prop := fnExactAgreementsOfUptoRow.holds Try.pinned (OpenSpec.upto fnExactAgreementsOfSpec)

/-- 'laws.FnExactBestMove', WHERE WHAT IT READS IS OF BULK AT MOST 1048576: true; the input reads as it did. -/
def fnExactBestMoveUptoRow : OpenClaim := { program := "ytiaikjhbomohgaa", sum := "65a2fcabd903ea57b7bd81acae572e22dfcf4c2240aea7e5bd899ba65818396e", func := "loop.example/g03209/laws.FnExactBestMove", spec := "fnExactBestMove", apart := false, narrowed := true }
def FnExactBestMoveUptoSaid : Prop := fnExactBestMoveUptoRow.holds Try.pinned (OpenSpec.upto fnExactBestMoveSpec)

/-- 'laws.FnExactCountAllowed', WHERE WHAT IT READS IS OF BULK AT MOST 1048576: true; the input reads as it did. -/
def fnExactCountAllowedUptoRow : OpenClaim := { program := "ytiaikjhbomohgaa", sum := "65a2fcabd903ea57b7bd81acae572e22dfcf4c2240aea7e5bd899ba65818396e", func := "loop.example/g03209/laws.FnExactCountAllowed", spec := "fnExactCountAllowed", apart := false, narrowed := true }
def FnExactCountAllowedUptoSaid : Prop := fnExactCountAllowedUptoRow.holds Try.pinned (OpenSpec.upto fnExactCountAllowedSpec)

/-- 'laws.FnExactFaultAt', WHERE WHAT IT READS IS OF BULK AT MOST 1048576: true; the input reads as it did. -/
def fnExactFaultAtUptoRow : OpenClaim := { program := "ytiaikjhbomohgaa", sum := "65a2fcabd903ea57b7bd81acae572e22dfcf4c2240aea7e5bd899ba65818396e", func := "loop.example/g03209/laws.FnExactFaultAt", spec := "fnExactFaultAt", apart := false, narrowed := true }
def FnExactFaultAtUptoSaid : Prop := fnExactFaultAtUptoRow.holds Try.pinned (OpenSpec.upto fnExactFaultAtSpec)

/-- 'laws.FnExactIndexOf', WHERE WHAT IT READS IS OF BULK AT MOST 1048576: true; the input reads as it did. -/
def fnExactIndexOfUptoRow : OpenClaim := { program := "ytiaikjhbomohgaa", sum := "65a2fcabd903ea57b7bd81acae572e22dfcf4c2240aea7e5bd899ba65818396e", func := "loop.example/g03209/laws.FnExactIndexOf", spec := "fnExactIndexOf", unfollowed := true, recurses := true, apart := false, narrowed := true }
def FnExactIndexOfUptoSaid : Prop := fnExactIndexOfUptoRow.holds Try.pinned (OpenSpec.upto fnExactIndexOfSpec)

/-- 'laws.FnExactIsAllowed', WHERE WHAT IT READS IS OF BULK AT MOST 1048576: true; the input reads as it did. -/
def fnExactIsAllowedUptoRow : OpenClaim := { program := "ytiaikjhbomohgaa", sum := "65a2fcabd903ea57b7bd81acae572e22dfcf4c2240aea7e5bd899ba65818396e", func := "loop.example/g03209/laws.FnExactIsAllowed", spec := "fnExactIsAllowed", apart := false, narrowed := true }
def FnExactIsAllowedUptoSaid : Prop := fnExactIsAllowedUptoRow.holds Try.pinned (OpenSpec.upto fnExactIsAllowedSpec)

/-- 'laws.FnExactLongestAllowed', WHERE WHAT IT READS IS OF BULK AT MOST 1048576: true; the input reads as it did. -/
def fnExactLongestAllowedUptoRow : OpenClaim := { program := "ytiaikjhbomohgaa", sum := "65a2fcabd903ea57b7bd81acae572e22dfcf4c2240aea7e5bd899ba65818396e", func := "loop.example/g03209/laws.FnExactLongestAllowed", spec := "fnExactLongestAllowed", apart := false, narrowed := true }
def FnExactLongestAllowedUptoSaid : Prop := fnExactLongestAllowedUptoRow.holds Try.pinned (OpenSpec.upto fnExactLongestAllowedSpec)

/-- 'laws.FnExactTurnBan', WHERE WHAT IT READS IS OF BULK AT MOST 1048576: true; the input reads as it did. -/
def fnExactTurnBanUptoRow : OpenClaim := { program := "ytiaikjhbomohgaa", sum := "65a2fcabd903ea57b7bd81acae572e22dfcf4c2240aea7e5bd899ba65818396e", func := "loop.example/g03209/laws.FnExactTurnBan", spec := "fnExactTurnBan", apart := false, narrowed := true }
def FnExactTurnBanUptoSaid : Prop := fnExactTurnBanUptoRow.holds Try.pinned (OpenSpec.upto fnExactTurnBanSpec)

/-- 'laws.FnExactBenchOk', WHERE WHAT IT READS IS OF BULK AT MOST 1048576: true; the input reads as it did. -/
def fnExactBenchOkUptoRow : OpenClaim := { program := "ytiaikjhbomohgaa", sum := "65a2fcabd903ea57b7bd81acae572e22dfcf4c2240aea7e5bd899ba65818396e", func := "loop.example/g03209/laws.FnExactBenchOk", spec := "fnExactBenchOk", apart := false, narrowed := true }
def FnExactBenchOkUptoSaid : Prop := fnExactBenchOkUptoRow.holds Try.pinned (OpenSpec.upto fnExactBenchOkSpec)

/-- 'laws.FnExactLowerWord', WHERE WHAT IT READS IS OF BULK AT MOST 1048576: true; the input reads as it did. -/
def fnExactLowerWordUptoRow : OpenClaim := { program := "ytiaikjhbomohgaa", sum := "65a2fcabd903ea57b7bd81acae572e22dfcf4c2240aea7e5bd899ba65818396e", func := "loop.example/g03209/laws.FnExactLowerWord", spec := "fnExactLowerWord", unfollowed := true, recurses := true, apart := false, narrowed := true }
def FnExactLowerWordUptoSaid : Prop := fnExactLowerWordUptoRow.holds Try.pinned (OpenSpec.upto fnExactLowerWordSpec)

/-- 'laws.FnExactPartsLine', WHERE WHAT IT READS IS OF BULK AT MOST 1048576: true; the input reads as it did. -/
def fnExactPartsLineUptoRow : OpenClaim := { program := "ytiaikjhbomohgaa", sum := "65a2fcabd903ea57b7bd81acae572e22dfcf4c2240aea7e5bd899ba65818396e", func := "loop.example/g03209/laws.FnExactPartsLine", spec := "fnExactPartsLine", inPlace := ["internal/abi.NoEscape", "internal/bytealg.MakeNoZero"], apart := false, narrowed := true }
def FnExactPartsLineUptoSaid : Prop := fnExactPartsLineUptoRow.holds Try.pinned (OpenSpec.upto fnExactPartsLineSpec)

/-- 'laws.FnExactAvoids', WHERE WHAT IT READS IS OF BULK AT MOST 1048576: true; the input reads as it did. -/
def fnExactAvoidsUptoRow : OpenClaim := { program := "ytiaikjhbomohgaa", sum := "65a2fcabd903ea57b7bd81acae572e22dfcf4c2240aea7e5bd899ba65818396e", func := "loop.example/g03209/laws.FnExactAvoids", spec := "fnExactAvoids", inPlace := ["internal/bytealg.IndexByteString", "internal/bytealg.IndexString"], named := ["internal/bytealg.MaxLen"], apart := false, narrowed := true }
def FnExactAvoidsUptoSaid : Prop := fnExactAvoidsUptoRow.holds Try.pinned (OpenSpec.upto fnExactAvoidsSpec)

end Rows
end Go.Proofs.Ytiaikjhbomohgaa
