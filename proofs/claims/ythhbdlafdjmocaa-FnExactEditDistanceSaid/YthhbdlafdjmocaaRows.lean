/-
  No cell of these rows narrows 'for every input' (looked for: loops, veiled, ifaces, maps, wideKeys, modest, calm, conditions, laid).
  DERIVED. THE GIVEN ROWS OF THIS SEAT. 12 by the template 'for every input the law returns true; each argument reads behind the call as it read before'; 0 by the template 'total and deterministic' (their statements: YthhbdlafdjmocaaTotals.lean).
  GIVEN WITH THE SEED: the statements are not yours to turn. If you find one false, say at which input.
  Laid BY PROGRAM, IN A SANDBOX (cutbox-rows.mjs): the forced cells as the released guide's own fill.sh prints them over the translation a22d202c55646212… (all of the seat's roots in one cut). By AI agents, Wed Nov 11 2026. No macro, syntax, notation, axiom, sorry.
-/
import Derived.Test.YthhbdlafdjmocaaChecked
import GoSem.Claim
import GoSem.ClaimJoined
import GoSem.ClaimMapViews
import Derived.JoinedTies
import Derived.KernelRfl
namespace Go.Proofs.Ythhbdlafdjmocaa
/- THE CELL 'sum', in the pinned program and in every row, IS THE sha256 OF THE DUMP (.gsa) THAT YthhbdlafdjmocaaProg.lean LOADS. Nothing in Lean hashes anything: it is a label: what it is worth is what the hold of that sum in a sandbox is worth. -/
noncomputable def Try.pinned : Pinned := { name := "ythhbdlafdjmocaa", sum := "a22d202c556462127aa28aaab3bea81d5b8c31d6763a0394f608220d844f9f44", checked := Try.checked }
namespace Rows
def none {H : Type} : Left H := { results := [], args := [] }

/-- 'laws.FnExactPartnerOf': WHATEVER THE INPUT: true; the input reads as it did. -/
def fnExactPartnerOfSpec : ChangeSpec := { name := "fnExactPartnerOf", fn := fun _ => fun
  | [d1, d2] => { results := [.lit (.bool true)], args := [d1, d2] }
  | _ => none }
def fnExactPartnerOfRow : OpenClaim := { program := "ythhbdlafdjmocaa", sum := "a22d202c556462127aa28aaab3bea81d5b8c31d6763a0394f608220d844f9f44", func := "loop.example/g03209/laws.FnExactPartnerOf", spec := "fnExactPartnerOf", apart := false }
def FnExactPartnerOfSaid : Prop := fnExactPartnerOfRow.holds Try.pinned (OpenSpec.ofChange fnExactPartnerOfSpec)

/-- ITS FALSE NEIGHBOUR: 'it returns false'. Refute it at one input. -/
def fnExactPartnerOfWrong : ChangeSpec := { name := "fnExactPartnerOf", fn := fun _ => fun
  | [d1, d2] => { results := [.lit (.bool false)], args := [d1, d2] }
  | _ => none }
def FnExactPartnerOfWrongFalsely : Prop := fnExactPartnerOfRow.holds Try.pinned (OpenSpec.ofChange fnExactPartnerOfWrong)

/-- 'laws.FnExactMismatchesOf': WHATEVER THE INPUT: true; the input reads as it did. -/
def fnExactMismatchesOfSpec : ChangeSpec := { name := "fnExactMismatchesOf", fn := fun _ => fun
  | [d1, d2] => { results := [.lit (.bool true)], args := [d1, d2] }
  | _ => none }
def fnExactMismatchesOfRow : OpenClaim := { program := "ythhbdlafdjmocaa", sum := "a22d202c556462127aa28aaab3bea81d5b8c31d6763a0394f608220d844f9f44", func := "loop.example/g03209/laws.FnExactMismatchesOf", spec := "fnExactMismatchesOf", apart := false }
def FnExactMismatchesOfSaid : Prop := fnExactMismatchesOfRow.holds Try.pinned (OpenSpec.ofChange fnExactMismatchesOfSpec)

/-- ITS FALSE NEIGHBOUR: 'it returns false'. Refute it at one input. -/
def fnExactMismatchesOfWrong : ChangeSpec := { name := "fnExactMismatchesOf", fn := fun _ => fun
  | [d1, d2] => { results := [.lit (.bool false)], args := [d1, d2] }
  | _ => none }
def FnExactMismatchesOfWrongFalsely : Prop := fnExactMismatchesOfRow.holds Try.pinned (OpenSpec.ofChange fnExactMismatchesOfWrong)

/-- 'laws.FnExactBeattyOf': WHATEVER THE INPUT: true; the input reads as it did. -/
def fnExactBeattyOfSpec : ChangeSpec := { name := "fnExactBeattyOf", fn := fun _ => fun
  | [d1, d2, d3] => { results := [.lit (.bool true)], args := [d1, d2, d3] }
  | _ => none }
def fnExactBeattyOfRow : OpenClaim := { program := "ythhbdlafdjmocaa", sum := "a22d202c556462127aa28aaab3bea81d5b8c31d6763a0394f608220d844f9f44", func := "loop.example/g03209/laws.FnExactBeattyOf", spec := "fnExactBeattyOf", apart := false }
def FnExactBeattyOfSaid : Prop := fnExactBeattyOfRow.holds Try.pinned (OpenSpec.ofChange fnExactBeattyOfSpec)

/-- ITS FALSE NEIGHBOUR: 'it returns false'. Refute it at one input. -/
def fnExactBeattyOfWrong : ChangeSpec := { name := "fnExactBeattyOf", fn := fun _ => fun
  | [d1, d2, d3] => { results := [.lit (.bool false)], args := [d1, d2, d3] }
  | _ => none }
def FnExactBeattyOfWrongFalsely : Prop := fnExactBeattyOfRow.holds Try.pinned (OpenSpec.ofChange fnExactBeattyOfWrong)

/-- 'laws.FnExactAgreementAt': WHATEVER THE INPUT: true; the input reads as it did. -/
def fnExactAgreementAtSpec : ChangeSpec := { name := "fnExactAgreementAt", fn := fun _ => fun
  | [d1, d2] => { results := [.lit (.bool true)], args := [d1, d2] }
  | _ => none }
def fnExactAgreementAtRow : OpenClaim := { program := "ythhbdlafdjmocaa", sum := "a22d202c556462127aa28aaab3bea81d5b8c31d6763a0394f608220d844f9f44", func := "loop.example/g03209/laws.FnExactAgreementAt", spec := "fnExactAgreementAt", apart := false }
def FnExactAgreementAtSaid : Prop := fnExactAgreementAtRow.holds Try.pinned (OpenSpec.ofChange fnExactAgreementAtSpec)

/-- ITS FALSE NEIGHBOUR: 'it returns false'. Refute it at one input. -/
def fnExactAgreementAtWrong : ChangeSpec := { name := "fnExactAgreementAt", fn := fun _ => fun
  | [d1, d2] => { results := [.lit (.bool false)], args := [d1, d2] }
  | _ => none }
def FnExactAgreementAtWrongFalsely : Prop := fnExactAgreementAtRow.holds Try.pinned (OpenSpec.ofChange fnExactAgreementAtWrong)

/-- 'laws.FnExactEditDistance': WHATEVER THE INPUT: true; the input reads as it did. -/
def fnExactEditDistanceSpec : ChangeSpec := { name := "fnExactEditDistance", fn := fun _ => fun
  | [d1, d2] => { results := [.lit (.bool true)], args := [d1, d2] }
  | _ => none }
def fnExactEditDistanceRow : OpenClaim := { program := "ythhbdlafdjmocaa", sum := "a22d202c556462127aa28aaab3bea81d5b8c31d6763a0394f608220d844f9f44", func := "loop.example/g03209/laws.FnExactEditDistance", spec := "fnExactEditDistance", apart := false }
def FnExactEditDistanceSaid : Prop := fnExactEditDistanceRow.holds Try.pinned (OpenSpec.ofChange fnExactEditDistanceSpec)

/-- ITS FALSE NEIGHBOUR: 'it returns false'. Refute it at one input. -/
def fnExactEditDistanceWrong : ChangeSpec := { name := "fnExactEditDistance", fn := fun _ => fun
  | [d1, d2] => { results := [.lit (.bool false)], args := [d1, d2] }
  | _ => none }
def FnExactEditDistanceWrongFalsely : Prop := fnExactEditDistanceRow.holds Try.pinned (OpenSpec.ofChange fnExactEditDistanceWrong)

/-- 'laws.FnExactNearestPart': WHATEVER THE INPUT: true; the input reads as it did. -/
def fnExactNearestPartSpec : ChangeSpec := { name := "fnExactNearestPart", fn := fun _ => fun
  | [d1, d2] => { results := [.lit (.bool true)], args := [d1, d2] }
  | _ => none }
def fnExactNearestPartRow : OpenClaim := { program := "ythhbdlafdjmocaa", sum := "a22d202c556462127aa28aaab3bea81d5b8c31d6763a0394f608220d844f9f44", func := "loop.example/g03209/laws.FnExactNearestPart", spec := "fnExactNearestPart", apart := false }
def FnExactNearestPartSaid : Prop := fnExactNearestPartRow.holds Try.pinned (OpenSpec.ofChange fnExactNearestPartSpec)

/-- ITS FALSE NEIGHBOUR: 'it returns false'. Refute it at one input. -/
def fnExactNearestPartWrong : ChangeSpec := { name := "fnExactNearestPart", fn := fun _ => fun
  | [d1, d2] => { results := [.lit (.bool false)], args := [d1, d2] }
  | _ => none }
def FnExactNearestPartWrongFalsely : Prop := fnExactNearestPartRow.holds Try.pinned (OpenSpec.ofChange fnExactNearestPartWrong)

/-- 'laws.FnExactBanOk': WHATEVER THE INPUT: true; the input reads as it did. -/
def fnExactBanOkSpec : ChangeSpec := { name := "fnExactBanOk", fn := fun _ => fun
  | [d] => { results := [.lit (.bool true)], args := [d] }
  | _ => none }
def fnExactBanOkRow : OpenClaim := { program := "ythhbdlafdjmocaa", sum := "a22d202c556462127aa28aaab3bea81d5b8c31d6763a0394f608220d844f9f44", func := "loop.example/g03209/laws.FnExactBanOk", spec := "fnExactBanOk", apart := false }
def FnExactBanOkSaid : Prop := fnExactBanOkRow.holds Try.pinned (OpenSpec.ofChange fnExactBanOkSpec)

/-- ITS FALSE NEIGHBOUR: 'it returns false'. Refute it at one input. -/
def fnExactBanOkWrong : ChangeSpec := { name := "fnExactBanOk", fn := fun _ => fun
  | [d] => { results := [.lit (.bool false)], args := [d] }
  | _ => none }
def FnExactBanOkWrongFalsely : Prop := fnExactBanOkRow.holds Try.pinned (OpenSpec.ofChange fnExactBanOkWrong)

/-- 'laws.FnExactBestShift': WHATEVER THE INPUT: true; the input reads as it did. -/
def fnExactBestShiftSpec : ChangeSpec := { name := "fnExactBestShift", fn := fun _ => fun
  | [d] => { results := [.lit (.bool true)], args := [d] }
  | _ => none }
def fnExactBestShiftRow : OpenClaim := { program := "ythhbdlafdjmocaa", sum := "a22d202c556462127aa28aaab3bea81d5b8c31d6763a0394f608220d844f9f44", func := "loop.example/g03209/laws.FnExactBestShift", spec := "fnExactBestShift", apart := false }
def FnExactBestShiftSaid : Prop := fnExactBestShiftRow.holds Try.pinned (OpenSpec.ofChange fnExactBestShiftSpec)

/-- ITS FALSE NEIGHBOUR: 'it returns false'. Refute it at one input. -/
def fnExactBestShiftWrong : ChangeSpec := { name := "fnExactBestShift", fn := fun _ => fun
  | [d] => { results := [.lit (.bool false)], args := [d] }
  | _ => none }
def FnExactBestShiftWrongFalsely : Prop := fnExactBestShiftRow.holds Try.pinned (OpenSpec.ofChange fnExactBestShiftWrong)

/-- 'laws.FnExactLowerOf': WHATEVER THE INPUT: true; the input reads as it did. -/
def fnExactLowerOfSpec : ChangeSpec := { name := "fnExactLowerOf", fn := fun _ => fun
  | [d] => { results := [.lit (.bool true)], args := [d] }
  | _ => none }
def fnExactLowerOfRow : OpenClaim := { program := "ythhbdlafdjmocaa", sum := "a22d202c556462127aa28aaab3bea81d5b8c31d6763a0394f608220d844f9f44", func := "loop.example/g03209/laws.FnExactLowerOf", spec := "fnExactLowerOf", apart := false }
def FnExactLowerOfSaid : Prop := fnExactLowerOfRow.holds Try.pinned (OpenSpec.ofChange fnExactLowerOfSpec)

/-- ITS FALSE NEIGHBOUR: 'it returns false'. Refute it at one input. -/
def fnExactLowerOfWrong : ChangeSpec := { name := "fnExactLowerOf", fn := fun _ => fun
  | [d] => { results := [.lit (.bool false)], args := [d] }
  | _ => none }
def FnExactLowerOfWrongFalsely : Prop := fnExactLowerOfRow.holds Try.pinned (OpenSpec.ofChange fnExactLowerOfWrong)

/-- 'laws.FnExactUpperOf': WHATEVER THE INPUT: true; the input reads as it did. -/
def fnExactUpperOfSpec : ChangeSpec := { name := "fnExactUpperOf", fn := fun _ => fun
  | [d] => { results := [.lit (.bool true)], args := [d] }
  | _ => none }
def fnExactUpperOfRow : OpenClaim := { program := "ythhbdlafdjmocaa", sum := "a22d202c556462127aa28aaab3bea81d5b8c31d6763a0394f608220d844f9f44", func := "loop.example/g03209/laws.FnExactUpperOf", spec := "fnExactUpperOf", apart := false }
def FnExactUpperOfSaid : Prop := fnExactUpperOfRow.holds Try.pinned (OpenSpec.ofChange fnExactUpperOfSpec)

/-- ITS FALSE NEIGHBOUR: 'it returns false'. Refute it at one input. -/
def fnExactUpperOfWrong : ChangeSpec := { name := "fnExactUpperOf", fn := fun _ => fun
  | [d] => { results := [.lit (.bool false)], args := [d] }
  | _ => none }
def FnExactUpperOfWrongFalsely : Prop := fnExactUpperOfRow.holds Try.pinned (OpenSpec.ofChange fnExactUpperOfWrong)

/-- 'laws.FnExactIsLosing': WHATEVER THE INPUT: true; the input reads as it did. -/
def fnExactIsLosingSpec : ChangeSpec := { name := "fnExactIsLosing", fn := fun _ => fun
  | [d1, d2] => { results := [.lit (.bool true)], args := [d1, d2] }
  | _ => none }
def fnExactIsLosingRow : OpenClaim := { program := "ythhbdlafdjmocaa", sum := "a22d202c556462127aa28aaab3bea81d5b8c31d6763a0394f608220d844f9f44", func := "loop.example/g03209/laws.FnExactIsLosing", spec := "fnExactIsLosing", apart := false }
def FnExactIsLosingSaid : Prop := fnExactIsLosingRow.holds Try.pinned (OpenSpec.ofChange fnExactIsLosingSpec)

/-- ITS FALSE NEIGHBOUR: 'it returns false'. Refute it at one input. -/
def fnExactIsLosingWrong : ChangeSpec := { name := "fnExactIsLosing", fn := fun _ => fun
  | [d1, d2] => { results := [.lit (.bool false)], args := [d1, d2] }
  | _ => none }
def FnExactIsLosingWrongFalsely : Prop := fnExactIsLosingRow.holds Try.pinned (OpenSpec.ofChange fnExactIsLosingWrong)

/-- 'laws.FnExactMissedBy': WHATEVER THE INPUT: true; the input reads as it did. -/
def fnExactMissedBySpec : ChangeSpec := { name := "fnExactMissedBy", fn := fun _ => fun
  | [d1, d2] => { results := [.lit (.bool true)], args := [d1, d2] }
  | _ => none }
def fnExactMissedByRow : OpenClaim := { program := "ythhbdlafdjmocaa", sum := "a22d202c556462127aa28aaab3bea81d5b8c31d6763a0394f608220d844f9f44", func := "loop.example/g03209/laws.FnExactMissedBy", spec := "fnExactMissedBy", apart := false }
def FnExactMissedBySaid : Prop := fnExactMissedByRow.holds Try.pinned (OpenSpec.ofChange fnExactMissedBySpec)

/-- ITS FALSE NEIGHBOUR: 'it returns false'. Refute it at one input. -/
def fnExactMissedByWrong : ChangeSpec := { name := "fnExactMissedBy", fn := fun _ => fun
  | [d1, d2] => { results := [.lit (.bool false)], args := [d1, d2] }
  | _ => none }
def FnExactMissedByWrongFalsely : Prop := fnExactMissedByRow.holds Try.pinned (OpenSpec.ofChange fnExactMissedByWrong)

/- THE SECOND FORM. 'bulk': how many values and letters a reading holds, each counted each time it is reached (what is shared counts as often as it is met; a slice's spare places count too). A statement '..UptoSaid' is the law's where the arguments, and the package variables that the reading takes, are together of bulk at most 1048576: NARROWER than '..Said'. Prove '..Said' where nothing that the law and all that it calls make is longer than what came in: it says more and counts as full. Else prove '..UptoSaid'. A law counts once. -/
mutual
def uptoBulk {H : Type} : DataW H → Nat
  | .lit (.string bytes) => bytes.length + 1
  | .lit _ => 1
  | .nil => 1
  | .ptr d => uptoBulk d + 1
  | .slice elems spare => uptoBulkAll elems + uptoBulkAll spare + 1
  | .agg parts => uptoBulkAll parts + 1
  | .iface _ d => uptoBulk d + 1
  | .map entries => uptoBulkEntries entries + 1
  | .held _ => 1
def uptoBulkAll {H : Type} : List (DataW H) → Nat
  | [] => 0
  | d :: r => uptoBulk d + uptoBulkAll r
def uptoBulkEntries {H : Type} : List (Lit × DataW H) → Nat
  | [] => 0
  | x :: r => uptoBulkEntry x + uptoBulkEntries r
def uptoBulkEntry {H : Type} : Lit × DataW H → Nat
  | (.string bytes, d) => bytes.length + uptoBulk d + 1
  | (_, d) => uptoBulk d + 1
 end
def uptoSmall : (H : Type) → List (DataW H) → Bool := fun _ ds => decide (uptoBulkAll ds ≤ 1048576)
def OpenSpec.upto (s : _root_.Go.ChangeSpec) : _root_.Go.OpenSpec := { _root_.Go.OpenSpec.ofChange s with cond := some uptoSmall }

/-- 'laws.FnExactPartnerOf', WHERE WHAT IT READS IS OF BULK AT MOST 1048576: true; the input reads as it did. -/
def fnExactPartnerOfUptoRow : OpenClaim := { program := "ythhbdlafdjmocaa", sum := "a22d202c556462127aa28aaab3bea81d5b8c31d6763a0394f608220d844f9f44", func := "loop.example/g03209/laws.FnExactPartnerOf", spec := "fnExactPartnerOf", apart := false, narrowed := true }
def FnExactPartnerOfUptoSaid : Prop := fnExactPartnerOfUptoRow.holds Try.pinned (OpenSpec.upto fnExactPartnerOfSpec)

/-- 'laws.FnExactMismatchesOf', WHERE WHAT IT READS IS OF BULK AT MOST 1048576: true; the input reads as it did. -/
def fnExactMismatchesOfUptoRow : OpenClaim := { program := "ythhbdlafdjmocaa", sum := "a22d202c556462127aa28aaab3bea81d5b8c31d6763a0394f608220d844f9f44", func := "loop.example/g03209/laws.FnExactMismatchesOf", spec := "fnExactMismatchesOf", apart := false, narrowed := true }
def FnExactMismatchesOfUptoSaid : Prop := fnExactMismatchesOfUptoRow.holds Try.pinned (OpenSpec.upto fnExactMismatchesOfSpec)

/-- 'laws.FnExactBeattyOf', WHERE WHAT IT READS IS OF BULK AT MOST 1048576: true; the input reads as it did. -/
def fnExactBeattyOfUptoRow : OpenClaim := { program := "ythhbdlafdjmocaa", sum := "a22d202c556462127aa28aaab3bea81d5b8c31d6763a0394f608220d844f9f44", func := "loop.example/g03209/laws.FnExactBeattyOf", spec := "fnExactBeattyOf", apart := false, narrowed := true }
def FnExactBeattyOfUptoSaid : Prop := fnExactBeattyOfUptoRow.holds Try.pinned (OpenSpec.upto fnExactBeattyOfSpec)

/-- 'laws.FnExactAgreementAt', WHERE WHAT IT READS IS OF BULK AT MOST 1048576: true; the input reads as it did. -/
def fnExactAgreementAtUptoRow : OpenClaim := { program := "ythhbdlafdjmocaa", sum := "a22d202c556462127aa28aaab3bea81d5b8c31d6763a0394f608220d844f9f44", func := "loop.example/g03209/laws.FnExactAgreementAt", spec := "fnExactAgreementAt", apart := false, narrowed := true }
def FnExactAgreementAtUptoSaid : Prop := fnExactAgreementAtUptoRow.holds Try.pinned (OpenSpec.upto fnExactAgreementAtSpec)

/-- 'laws.FnExactEditDistance', WHERE WHAT IT READS IS OF BULK AT MOST 1048576: true; the input reads as it did. -/
def fnExactEditDistanceUptoRow : OpenClaim := { program := "ythhbdlafdjmocaa", sum := "a22d202c556462127aa28aaab3bea81d5b8c31d6763a0394f608220d844f9f44", func := "loop.example/g03209/laws.FnExactEditDistance", spec := "fnExactEditDistance", apart := false, narrowed := true }
def FnExactEditDistanceUptoSaid : Prop := fnExactEditDistanceUptoRow.holds Try.pinned (OpenSpec.upto fnExactEditDistanceSpec)

/-- 'laws.FnExactNearestPart', WHERE WHAT IT READS IS OF BULK AT MOST 1048576: true; the input reads as it did. -/
def fnExactNearestPartUptoRow : OpenClaim := { program := "ythhbdlafdjmocaa", sum := "a22d202c556462127aa28aaab3bea81d5b8c31d6763a0394f608220d844f9f44", func := "loop.example/g03209/laws.FnExactNearestPart", spec := "fnExactNearestPart", apart := false, narrowed := true }
def FnExactNearestPartUptoSaid : Prop := fnExactNearestPartUptoRow.holds Try.pinned (OpenSpec.upto fnExactNearestPartSpec)

/-- 'laws.FnExactBanOk', WHERE WHAT IT READS IS OF BULK AT MOST 1048576: true; the input reads as it did. -/
def fnExactBanOkUptoRow : OpenClaim := { program := "ythhbdlafdjmocaa", sum := "a22d202c556462127aa28aaab3bea81d5b8c31d6763a0394f608220d844f9f44", func := "loop.example/g03209/laws.FnExactBanOk", spec := "fnExactBanOk", apart := false, narrowed := true }
def FnExactBanOkUptoSaid : Prop := fnExactBanOkUptoRow.holds Try.pinned (OpenSpec.upto fnExactBanOkSpec)

/-- 'laws.FnExactBestShift', WHERE WHAT IT READS IS OF BULK AT MOST 1048576: true; the input reads as it did. -/
def fnExactBestShiftUptoRow : OpenClaim := { program := "ythhbdlafdjmocaa", sum := "a22d202c556462127aa28aaab3bea81d5b8c31d6763a0394f608220d844f9f44", func := "loop.example/g03209/laws.FnExactBestShift", spec := "fnExactBestShift", apart := false, narrowed := true }
def FnExactBestShiftUptoSaid : Prop := fnExactBestShiftUptoRow.holds Try.pinned (OpenSpec.upto fnExactBestShiftSpec)

/-- 'laws.FnExactLowerOf', WHERE WHAT IT READS IS OF BULK AT MOST 1048576: true; the input reads as it did. -/
def fnExactLowerOfUptoRow : OpenClaim := { program := "ythhbdlafdjmocaa", sum := "a22d202c556462127aa28aaab3bea81d5b8c31d6763a0394f608220d844f9f44", func := "loop.example/g03209/laws.FnExactLowerOf", spec := "fnExactLowerOf", apart := false, narrowed := true }
def FnExactLowerOfUptoSaid : Prop := fnExactLowerOfUptoRow.holds Try.pinned (OpenSpec.upto fnExactLowerOfSpec)

/-- 'laws.FnExactUpperOf', WHERE WHAT IT READS IS OF BULK AT MOST 1048576: true; the input reads as it did. -/
def fnExactUpperOfUptoRow : OpenClaim := { program := "ythhbdlafdjmocaa", sum := "a22d202c556462127aa28aaab3bea81d5b8c31d6763a0394f608220d844f9f44", func := "loop.example/g03209/laws.FnExactUpperOf", spec := "fnExactUpperOf", apart := false, narrowed := true }
def FnExactUpperOfUptoSaid : Prop := fnExactUpperOfUptoRow.holds Try.pinned (OpenSpec.upto fnExactUpperOfSpec)

/-- 'laws.FnExactIsLosing', WHERE WHAT IT READS IS OF BULK AT MOST 1048576: true; the input reads as it did. -/
def fnExactIsLosingUptoRow : OpenClaim := { program := "ythhbdlafdjmocaa", sum := "a22d202c556462127aa28aaab3bea81d5b8c31d6763a0394f608220d844f9f44", func := "loop.example/g03209/laws.FnExactIsLosing", spec := "fnExactIsLosing", apart := false, narrowed := true }
def FnExactIsLosingUptoSaid : Prop := fnExactIsLosingUptoRow.holds Try.pinned (OpenSpec.upto fnExactIsLosingSpec)

/-- 'laws.FnExactMissedBy', WHERE WHAT IT READS IS OF BULK AT MOST 1048576: true; the input reads as it did. -/
def fnExactMissedByUptoRow : OpenClaim := { program := "ythhbdlafdjmocaa", sum := "a22d202c556462127aa28aaab3bea81d5b8c31d6763a0394f608220d844f9f44", func := "loop.example/g03209/laws.FnExactMissedBy", spec := "fnExactMissedBy", apart := false, narrowed := true }
def FnExactMissedByUptoSaid : Prop := fnExactMissedByUptoRow.holds Try.pinned (OpenSpec.upto fnExactMissedBySpec)

end Rows
end Go.Proofs.Ythhbdlafdjmocaa
