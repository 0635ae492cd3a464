/- IsBinary, SwapAB, both: words of the letters a and b alone. No condition but the bounds. -/
import Derived.Test.YtoclnikpieebcaaDoorBnr
namespace Go.Proofs.YtoclnikpieebcaaDoor
open Go.RowKit
set_option linter.unusedVariables false

theorem swW_length (l : List UInt8) : (swW l).length = l.length := by simp [swW]
theorem swW_at {l : List UInt8} {k : Nat} {b : UInt8} (h : l[k]? = some b) : (swW l).take (k + 1) = (swW l).take k ++ [swC b] := by
  rw [List.take_add_one]; simp [swW, h]
theorem bin_at {l : List UInt8} (h : binW l = true) {k : Nat} {b : UInt8} (hb : l[k]? = some b) : 97 ≤ b.toNat ∧ b.toNat ≤ 98 := by
  unfold binW at h
  simp only [Bool.and_eq_true] at h
  have h1 := isW_okc h.1 hb
  have h2 := h.2
  unfold winL at h2
  rw [List.all_eq_true] at h2
  have := h2 b (List.mem_of_getElem? hb)
  simp at this; omega
theorem bin_isW {l : List UInt8} (h : binW l = true) : isW l = true := by
  unfold binW at h; simp only [Bool.and_eq_true] at h; exact h.1
theorem swC_nat {b : UInt8} (h1 : 97 ≤ b.toNat) (h2 : b.toNat ≤ 98) : (swC b).toNat = 195 - b.toNat := by
  unfold swC
  by_cases hb : b = 97
  · rw [if_pos hb, hb]; rfl
  · rw [if_neg hb]
    have : b.toNat ≠ 97 := fun h => hb (UInt8.toNat_inj.1 h)
    show 97 = _
    omega
def swapS (s : ByteArray) : ByteArray := if binW (L s) = true then strOf (swW (L s)) else ⟨#[]⟩
end Go.Proofs.YtoclnikpieebcaaDoor
