/- Lists of strings: where a string stands in one; whether one is a list of pairs, in order, each once. No condition but the bounds. -/
import Derived.Test.YtaihigaafjmpiaaDoorHelp
import Derived.Test.YtaihigaafjmpiaaDoorStr
namespace Go.Proofs.YtaihigaafjmpiaaDoor
open Go.RowKit
set_option linter.unusedVariables false

def ixGo (x : ByteArray) : List ByteArray → Int → Int
  | [], _ => -1
  | y :: r, i => if x = y then i else ixGo x r (i + 1)
/-- The first index of x in ss, or -1. -/
def atIx (ss : List ByteArray) (x : ByteArray) : Int := ixGo x ss 0
theorem ixGo_ge (x : ByteArray) : ∀ (r : List ByteArray) (i : Int), 0 ≤ i → (ixGo x r i = -1 ∨ i ≤ ixGo x r i) ∧ ixGo x r i ≤ i + r.length
  | [], i, h => ⟨.inl rfl, by show (-1 : Int) ≤ _; simp; omega⟩
  | y :: r, i, h => by
    have ih := ixGo_ge x r (i + 1) (by omega)
    unfold ixGo
    split
    · exact ⟨.inr (Int.le_refl _), by simp; omega⟩
    · refine ⟨?_, ?_⟩
      · rcases ih.1 with h1 | h1
        · exact .inl h1
        · exact .inr (by omega)
      · have := ih.2; simp at this ⊢; omega
def hasS (ss : List ByteArray) (x : ByteArray) : Bool := decide (0 ≤ atIx ss x)
theorem hasS_lt (ss : List ByteArray) (x : ByteArray) : decide (atIx ss x < 0) = !hasS ss x := by
  unfold hasS
  by_cases h : 0 ≤ atIx ss x
  · rw [decide_eq_true h, decide_eq_false (by omega)]; rfl
  · rw [decide_eq_false h, decide_eq_true (by omega)]; rfl


def sLe (a b : ByteArray) : Bool := Op.bytesLess a.toList b.toList || a.toList == b.toList
def pairW (s : ByteArray) : Bool := isW (L s) && decide (s.size = 2)
def prGo : Option ByteArray → List ByteArray → Bool
  | _, [] => true
  | p, s :: r => pairW s && (match p with | none => true | some q => !(sLe s q)) && prGo (some s) r
/-- Whether ss are pairs, in order, each once. -/
def pairsOk (ss : List ByteArray) : Bool := prGo none ss
def prevOf (ss : List ByteArray) (k : Nat) : Option ByteArray := if k = 0 then none else ss[k - 1]?
theorem prevOf_succ (ss : List ByteArray) (k : Nat) : prevOf ss (k + 1) = ss[k]? := by simp [prevOf]
theorem prGo_cons (p : Option ByteArray) (s : ByteArray) (r : List ByteArray) : prGo p (s :: r) = (pairW s && (match p with | none => true | some q => !(sLe s q)) && prGo (some s) r) := rfl
theorem prGo_bad {p : Option ByteArray} {s : ByteArray} {r : List ByteArray} (h : pairW s = false) : prGo p (s :: r) = false := by rw [prGo_cons, h]; rfl

end Go.Proofs.YtaihigaafjmpiaaDoor
