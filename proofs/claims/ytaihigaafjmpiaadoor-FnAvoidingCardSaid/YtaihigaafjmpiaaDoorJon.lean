/- Join with one byte between the words, both; a hyphen for the empty string. Asks the shelf's text. No condition but the bounds. -/
import Derived.Test.YtaihigaafjmpiaaDoorMem
import Derived.Test.YtaihigaafjmpiaaDoorByt
import Derived.Test.YtaihigaafjmpiaaDoorShelf
import Derived.Lib.Join
namespace Go.Proofs.YtaihigaafjmpiaaDoor
open Go.RowKit
set_option linter.unusedVariables false

theorem strOf_appJ (a b : List UInt8) : strOf a ++ strOf b = strOf (a ++ b) := by
  apply bytes_ext
  simp [strOf, ByteArray.data_append]
/-- The words of a list with a byte between them. -/
def jnS (sp : UInt8) (l : List ByteArray) : List UInt8 := Lib.join (l.map L) [sp]
theorem js_snoc (sp : UInt8) (l : List ByteArray) (x : ByteArray) : jnS sp (l ++ [x]) = if l = [] then L x else jnS sp l ++ [sp] ++ L x := by
  induction l with
  | nil => simp [jnS, Lib.join, List.intercalate]
  | cons y l ih =>
    rw [if_neg (by simp)]
    cases l with
    | nil => simp [jnS, Lib.join, List.intercalate]
    | cons z l =>
      rw [if_neg (by simp)] at ih
      have h1 : ∀ m : List ByteArray, m ≠ [] → jnS sp (y :: m) = L y ++ [sp] ++ jnS sp m := fun m hm => by
        cases m with
        | nil => exact absurd rfl hm
        | cons a b => simp [jnS, Lib.join, List.intercalate]
      rw [List.cons_append, h1 _ (by simp), ih, h1 _ (by simp)]
      simp
theorem js_take (sp : UInt8) (l : List ByteArray) (h : ∀ x ∈ l, x.size ≤ 400) : ∀ k, k ≤ l.length → (jnS sp (l.take k)).length ≤ 401 * k
  | 0, _ => by simp [jnS, Lib.join, List.intercalate]
  | k + 1, hk => by
    have h1 := js_take sp l h k (by omega)
    obtain ⟨x, hx⟩ := some_of_lt (l := l) (k := k) (by omega)
    have h2 := h x (List.mem_of_getElem? hx)
    have he : jnS sp (l.take (k + 1)) = if l.take k = [] then L x else jnS sp (l.take k) ++ [sp] ++ L x := by rw [List.take_add_one, hx]; exact js_snoc _ _ _
    rw [he]
    split
    · rw [L_len]; omega
    · simp only [List.length_append, List.length_singleton, L_len]; omega
theorem js_len (sp : UInt8) (l : List ByteArray) (h : ∀ x ∈ l, x.size ≤ 400) : (jnS sp l).length ≤ 401 * l.length := by
  have := js_take sp l h l.length (Nat.le_refl _)
  rwa [List.take_length] at this
def orD (s : ByteArray) : ByteArray := if s.size = 0 then { data := #[45] } else s
end Go.Proofs.YtaihigaafjmpiaaDoor
