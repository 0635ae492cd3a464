/- Fixed points, the program's. No condition but the bounds. -/
import Derived.Test.YtoclnikpieebcaaDoorFix
import Derived.Test.YtoclnikpieebcaaDoorBrw
import Derived.Test.YtoclnikpieebcaaDoorNum
namespace Go.Proofs.YtoclnikpieebcaaDoor
open Go.RowKit
set_option linter.unusedVariables false

/-- Letters that have images. -/
def letIn (n : Nat) (l : List UInt8) : Prop := ∀ d ∈ l, 97 ≤ d.toNat ∧ d.toNat < 97 + n
theorem su_g {zs : List ByteArray} (h : suOk zs = true) : zs.length ≤ 4 ∧ ∀ x ∈ zs, 1 ≤ x.size ∧ x.size ≤ 8 ∧ letIn zs.length (L x) := by
  rw [suOk, Bool.and_eq_true, List.all_eq_true, decide_eq_true_eq] at h
  refine ⟨h.2.2, fun x hx => ?_⟩
  have h1 := h.1 x hx
  rw [imgOk, Bool.and_eq_true, decide_eq_true_eq, Bool.and_eq_true] at h1
  refine ⟨h1.1.1, h1.1.2, fun d hd => ?_⟩
  obtain ⟨k, hk⟩ := List.mem_iff_getElem?.1 hd
  have h2 := (isW_okc h1.2.1 hk).1
  have h3 := h1.2.2
  rw [winL, List.all_eq_true] at h3
  have h4 := h3 d hd
  rw [decide_eq_true_eq] at h4
  exact ⟨h2, h4⟩
def fxGo (zs : List ByteArray) (n : Nat) : Nat → Nat → List UInt8 → List UInt8
  | 0, _, l => l
  | f + 1, k, l => if l.length < n then fxGo zs n f (k + 1) (l ++ L (imgS zs (l.getD k 0))) else l
def fxL (zs : List ByteArray) (s : ByteArray) (n : Nat) : List UInt8 := fxGo zs n n 1 (L (imgS zs ((L s).headD 0)))
theorem fxGo_end {zs : List ByteArray} {n f k : Nat} {l : List UInt8} (h : n ≤ l.length) : fxGo zs n f k l = l := by
  cases f with
  | zero => rfl
  | succ f => rw [fxGo, if_neg (by omega)]
theorem fxGo_go {zs : List ByteArray} {n f k : Nat} {l : List UInt8} {d : UInt8} (h : l.length < n) (hf : n ≤ l.length + f) (hd : l[k]? = some d) : ∃ f', fxGo zs n f k l = fxGo zs n f' (k + 1) (l ++ L (imgS zs d)) ∧ n ≤ l.length + f' + 1 := by
  cases f with
  | zero => omega
  | succ f => exact ⟨f, by rw [fxGo, if_pos h, List.getD_eq_getElem?_getD, hd]; rfl, by omega⟩
theorem imgS_at {zs : List ByteArray} {d : UInt8} (h1 : 97 ≤ d.toNat) (h2 : d.toNat < 97 + zs.length) : ∃ k, 97 + k = d.toNat ∧ zs[k]? = some (imgS zs d) := by
  refine ⟨d.toNat - 97, by omega, ?_⟩
  obtain ⟨x, hx⟩ := some_of_lt (l := zs) (k := d.toNat - 97) (by omega)
  rw [imgS, List.getD_eq_getElem?_getD, hx]
  rfl
end Go.Proofs.YtoclnikpieebcaaDoor
