/- The word of the lower numbers is the fixed point of fibonacci: a hundred letters, by reckoning. -/
import Derived.Test.YtkmkaaomkjhlgaaDoorCmp
import Derived.Test.YtkmkaaomkjhlgaaDoorLow
import Derived.Test.YtkmkaaomkjhlgaaDoorFxp
import Derived.Test.YtkmkaaomkjhlgaaDoorNam
namespace Go.Proofs.YtkmkaaomkjhlgaaDoor
open Go.RowKit
set_option linter.unusedVariables false

/-- The lower numbers, reckoned one by one. -/
def lowC : Nat → Nat
  | 0 => 0
  | n + 1 => let m := lowC n + 2; if m * m ≤ m * (n + 1) + (n + 1) * (n + 1) then m else m - 1
theorem lowC_is : ∀ n : Nat, n ≤ 1000 → low n = (lowC n : Int)
  | 0, _ => low_zero
  | n + 1, h => by
    have ih := lowC_is n (by omega)
    have h1 := low_succ n (by omega) (by omega)
    have h2 := low_step n (by omega) (by omega)
    have h3 := low_iff ((n : Int) + 1) ((lowC n : Int) + 2) (by omega) (by omega) (by omega)
    rw [show ((n + 1 : Nat) : Int) = (n : Int) + 1 by omega, lowC]
    have h4 : ((lowC n : Int) + 2) * ((lowC n : Int) + 2) ≤ ((lowC n : Int) + 2) * ((n : Int) + 1) + ((n : Int) + 1) * ((n : Int) + 1) ↔ (lowC n + 2) * (lowC n + 2) ≤ (lowC n + 2) * (n + 1) + (n + 1) * (n + 1) := by
      exact_mod_cast Iff.rfl
    rw [h4] at h3
    split
    · have := h3.2 (by assumption); omega
    · have := mt h3.1 (by assumption); omega
def isLowC (m : Nat) : Bool := (List.range m).any fun i => lowC (i + 1) == m
theorem lwAt_is (k : Nat) (hk : k < 400) : lwAt k = if isLowC (k + 1) then 97 else 98 := by
  have hx := idxOf_is ((k : Int) + 1) (by omega) (by omega)
  unfold lwAt
  rcases hx with ⟨a, b, c, d⟩ | ⟨a, b, c, d, e⟩
  · have : isLowC (k + 1) = true := by
      rw [isLowC, List.any_eq_true]
      refine ⟨(idxOf ((k : Int) + 1)).1.toNat - 1, List.mem_range.2 (by omega), ?_⟩
      have h2 := lowC_is ((idxOf ((k : Int) + 1)).1.toNat - 1 + 1) (by omega)
      rw [show (((idxOf ((k : Int) + 1)).1.toNat - 1 + 1 : Nat) : Int) = (idxOf ((k : Int) + 1)).1 by omega, d] at h2
      rw [beq_iff_eq]
      omega
    rw [a, this]
  · have : isLowC (k + 1) = false := by
      rw [isLowC, List.any_eq_false]
      intro i hi h
      have h2 := lowC_is (i + 1) (by have := List.mem_range.1 hi; omega)
      rw [beq_iff_eq] at h
      exact e ((i + 1 : Nat) : Int) (by omega) (by have := List.mem_range.1 hi; omega) (by rw [h2, h]; omega)
    rw [a, this]
theorem lwW_is (n : Nat) (hn : n ≤ 400) : lwW n = (List.range n).map fun k => if isLowC (k + 1) then 97 else 98 := by
  unfold lwW
  apply List.map_congr_left
  intro k hk
  exact lwAt_is k (by have := List.mem_range.1 hk; omega)
def fibS : ByteArray := { data := #[102, 105, 98, 111, 110, 97, 99, 99, 105] }
theorem psL_fib : psL (nmT fibS) = [({ data := #[97, 98] } : ByteArray), { data := #[97] }] := by decide +kernel
theorem fib_word : lwW 100 = (fxL [({ data := #[97, 98] } : ByteArray), { data := #[97] }] { data := #[97] } 100).take 100 := by
  rw [lwW_is 100 (by omega)]
  decide +kernel
def fibZ : List ByteArray := [({ data := #[97, 98] } : ByteArray), { data := #[97] }]
theorem psV_fib : (psV (nmT fibS)).isSome = true := by decide +kernel
theorem iNamed_fib (w : World) (hml : MlS w) :
    Calls Tryd.prog 18 #[.string { data := #[102, 105, 98, 111, 110, 97, 99, 99, 105] }] w fun e w' => ∃ A c, e = .returned (.tuple #[.agg #[.slice A 2 c], .bool true]) ∧ Rds w' w'.heap.size A (fibZ.map Value.string) ∧ Below w.heap.size w w' := by
  have h := iNamed_any fibS w hml
  rw [psL_fib, psV_fib] at h
  refine h.mono ?_
  rintro e w' ⟨A, c, he, ho, hb⟩
  exact ⟨A, c, he, ho.reads, hb⟩
theorem iFix_fib (A : Option Addr) (c B : Nat) (w : World) (hrd : Rds w B A (fibZ.map Value.string)) (hB : B ≤ w.heap.size) :
    Calls Tryd.prog 19 #[.agg #[.slice A 2 c], .string { data := #[97] }, .int .i64 100] w fun e w' => e = .returned (.tuple #[.string (strOf (lwW 100)), .bool true]) ∧ Below w.heap.size w w' := by
  have h := iFixedPoint_yes fibZ A 2 c B { data := #[97] } 100 w rfl (by omega) (by decide) (by decide +kernel) (by decide +kernel) hrd hB
  rw [show (fxL fibZ { data := #[97] } 100).take 100 = lwW 100 from fib_word.symm] at h
  exact h
end Go.Proofs.YtkmkaaomkjhlgaaDoor
