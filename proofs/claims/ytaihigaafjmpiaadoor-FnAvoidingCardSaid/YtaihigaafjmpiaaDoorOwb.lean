/- The block of a slice of one's own; a cell of a slice that reads as a list. No condition. -/
import Derived.Test.YtaihigaafjmpiaaDoorMem
namespace Go.Proofs.YtaihigaafjmpiaaDoor
open Go.RowKit
set_option linter.unusedVariables false

theorem own_block {w : World} {B n c : Nat} {E : TypeId} {A : Option Addr} {xs : List Value} (h : Own w B E (.slice A n c) xs) (hn : 0 < n) : ∃ g, A = some ⟨g, 0, none⟩ := by
  obtain ⟨_, h2 | ⟨g, cap, cur, hv, _⟩⟩ := h
  · have := h2.1
    injection this with e1 e2 e3
    omega
  · injection hv with e1 e2 e3
    exact ⟨g, e1⟩
theorem rds_cell {w : World} {B g k : Nat} {xs : List Value} {u : Value} (h : Rds w B (some ⟨g, 0, none⟩) xs) (hk : xs[k]? = some u) : w.cell? ⟨g, k, none⟩ = some u := by
  obtain ⟨ad, h1, _, h2⟩ := h k u hk
  injection h1 with h1
  subst h1
  rcases Nat.eq_zero_or_pos k with h0 | h0
  · subst h0; simpa [Addr.add] using h2
  · simpa [Addr.add, show k ≠ 0 by omega] using h2
/-- A list's first cells, at a block. -/
theorem rds_cell_any {w : World} {B : Nat} {A : Option Addr} {k : Nat} {xs : List Value} {u : Value} (h : Rds w B A xs) (hk : xs[k]? = some u) : ∃ ad, A = some ad ∧ w.cell? (ad.add k) = some u := h.at_ hk
end Go.Proofs.YtaihigaafjmpiaaDoor
