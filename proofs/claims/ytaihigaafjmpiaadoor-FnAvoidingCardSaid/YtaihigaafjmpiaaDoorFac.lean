/- l05Factors: the factors of a word, in order, each once, by insertion. No condition but the bounds. -/
import Derived.Test.YtaihigaafjmpiaaDoorIns
namespace Go.Proofs.YtaihigaafjmpiaaDoor
open Go.RowKit
set_option linter.unusedVariables false

def fcT (s : ByteArray) (n k : Nat) : List ByteArray := (List.range k).map fun i => s.extract i (i + n)
/-- The factors of n letters, one after the other. -/
def fc (s : ByteArray) (n : Nat) : List ByteArray := fcT s n (s.size + 1 - n)
theorem fcT_len (s : ByteArray) (n k : Nat) : (fcT s n k).length = k := by simp [fcT]
theorem fcT_succ (s : ByteArray) (n k : Nat) : fcT s n (k + 1) = fcT s n k ++ [s.extract k (k + n)] := by
  unfold fcT; rw [List.range_succ, List.map_append]; rfl
theorem insL_snoc (l : List ByteArray) (x : ByteArray) : insL (l ++ [x]) = insB (insL l) x := by simp [insL]
theorem fcT_size {s : ByteArray} {n k : Nat} {x : ByteArray} (h : x ∈ fcT s n k) : x.size ≤ s.size := by
  unfold fcT at h
  obtain ⟨i, _, rfl⟩ := List.mem_map.1 h
  rw [ByteArray.size_extract]; omega
end Go.Proofs.YtaihigaafjmpiaaDoor
