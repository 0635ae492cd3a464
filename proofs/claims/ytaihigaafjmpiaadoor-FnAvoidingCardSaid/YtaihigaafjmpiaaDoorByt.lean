/- Slices of bytes: what 'string(b)' makes of them; one byte appended. No condition. -/
import Derived.Test.YtaihigaafjmpiaaDoorMem
import Derived.Laws.IdiomStrings
import Derived.Lib.BufferRead
namespace Go.Proofs.YtaihigaafjmpiaaDoor
open Go.RowKit
set_option linter.unusedVariables false

def byV (l : List UInt8) : List Value := l.map fun b => Value.int .u8 (b.toNat : Int)
theorem byV_length (l : List UInt8) : (byV l).length = l.length := by simp [byV]
theorem byV_append (l k : List UInt8) : byV (l ++ k) = byV l ++ byV k := by simp [byV]
theorem byV_snoc (l : List UInt8) (b : UInt8) : byV l ++ [Value.int .u8 (b.toNat : Int)] = byV (l ++ [b]) := by simp [byV]
def strOf (l : List UInt8) : ByteArray := ⟨l.toArray⟩
theorem strOf_L (l : List UInt8) : L (strOf l) = l := by simp [L, strOf]
theorem strOf_size (l : List UInt8) : (strOf l).size = l.length := by simp [strOf, ByteArray.size]

/-- 'string(b)' where b's cells are the bytes l. -/
theorem Rds.conv {P : Program} {w : World} {B n : Nat} {A : Option Addr} {l : List UInt8} (h : Rds w B A (byV l)) (hn : l.length = n) (src dst e : TypeId) (c : Nat)
    (hs : P.underlying src = some (.slice e)) (he : P.underlying e = some (.int .u8)) (hd : P.underlying dst = some .string) :
    (convert src dst (.slice A n c)).run P w = .ok (.string (strOf l)) w := by
  subst hn
  cases A with
  | none =>
    have hl : l = [] := by
      cases l with
      | nil => rfl
      | cons b l =>
        obtain ⟨ad, h1, _⟩ := h 0 (Value.int .u8 (b.toNat : Int)) (by simp [byV])
        cases h1
    subst hl
    exact Lib.run_convert_nil_bytes w src dst e c hs he hd
  | some a =>
    refine run_convert_bytes_back w src dst e a c l hs he hd ?_
    intro j hj
    obtain ⟨ad, h1, _, h2⟩ := h j (Value.int .u8 (l[j].toNat : Int)) (by simp [byV, hj])
    injection h1 with h1
    subst h1
    exact h2
theorem info_u8 : (Tryd.prog.info? 5).map (fun i => (i.zero, i.size, i.bytes)) = some (some (.int .u8 0), 1, 1) := by kernel_rfl
end Go.Proofs.YtaihigaafjmpiaaDoor
