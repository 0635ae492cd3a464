/- BestShift, both. -/
import Derived.Test.YtiaikjhbomohgaaNear
namespace Go.Proofs.Ytiaikjhbomohgaa
open Go.RowKit
set_option linter.unusedVariables false

theorem agr_bd (s : ByteArray) (k : Nat) (hk : k ≤ s.size) : 0 ≤ agr (L s) k ∧ agr (L s) k ≤ (s.size : Int) - k := by
  have h := mism_le ((L s).drop k) ((L s).take ((L s).length - k))
  rw [List.length_drop, L_len] at h
  simp only [agr, L_len]
  omega
/-- BestShift's loop: n rounds to come, from k, the best so far being b (0: none). -/
def bestGo (l : List UInt8) : Nat → Nat → Nat → Nat
  | 0, _, b => b
  | n + 1, k, b => if b = 0 ∨ agr l b * ((l.length : Int) - k) < agr l k * ((l.length : Int) - b) then bestGo l n (k + 1) k else bestGo l n (k + 1) b
theorem pr_bd {a b : Int} (h1 : 0 ≤ a) (h2 : a ≤ 100) (h3 : 0 ≤ b) (h4 : b ≤ 100) : 0 ≤ a * b ∧ a * b ≤ 10000 :=
  ⟨Int.mul_nonneg h1 h3, by have := Int.mul_le_mul h2 h4 h3 (by omega); omega⟩

end Go.Proofs.Ytiaikjhbomohgaa
