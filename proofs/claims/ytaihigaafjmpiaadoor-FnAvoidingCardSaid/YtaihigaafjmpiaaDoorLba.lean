/- LeastBan of the reference, walked. Asks the shelf's text. No condition but the bounds. -/
import Derived.Test.YtaihigaafjmpiaaDoorL17
import Derived.Test.YtaihigaafjmpiaaDoorIns
import Derived.Test.YtaihigaafjmpiaaDoorStr
import Derived.Laws.RangeString
namespace Go.Proofs.YtaihigaafjmpiaaDoor
open Go.RowKit
set_option linter.unusedVariables false

def lbV (s : ByteArray) : List ByteArray := if isW (L s) = true ∧ s.size ≠ 0 then lbL s else []
/-- The least eight of what was seen of the words. -/
def lbK (s : ByteArray) (k : Nat) : List ByteArray := (insL (((lays 4).take k).filter (lbP s))).take 8
theorem lbK_ss (s : ByteArray) (k : Nat) : SS (lbK s k) := ss_take (insL_ss _) 8
theorem lbK_len (s : ByteArray) (k : Nat) : (lbK s k).length ≤ 8 := by rw [lbK, List.length_take]; omega
theorem lbK_end (s : ByteArray) (k : Nat) (hk : (lays 4).length ≤ k) : lbK s k = lbL s := by rw [lbK, List.take_of_length_le hk]; rfl
theorem lbK_no {s f : ByteArray} {k : Nat} (h : (lays 4)[k]? = some f) (hp : lbP s f = false) : lbK s (k + 1) = lbK s k := by
  have e : (lays 4).take (k + 1) = (lays 4).take k ++ [f] := by rw [List.take_add_one, h]; rfl
  rw [lbK, e, List.filter_append]; simp [hp, lbK]
theorem lbK_yes {s f : ByteArray} {k : Nat} (h : (lays 4)[k]? = some f) (hp : lbP s f = true) : lbK s (k + 1) = (insB (lbK s k) f).take 8 := by
  have e : (lays 4).take (k + 1) = (lays 4).take k ++ [f] := by rw [List.take_add_one, h]; rfl
  rw [lbK, e, List.filter_append, lbK, insB_take f 8 (insL_ss _)]
  congr 1
  simp [hp, insL]
theorem lbK_far {s f z : ByteArray} {k : Nat} (h : (lays 4)[k]? = some f) (h8 : (lbK s k).length = 8) (hz : (lbK s k)[7]? = some z) (hzf : L z < L f) : lbK s (k + 1) = lbK s k := by
  cases hp : lbP s f
  · exact lbK_no h hp
  · rw [lbK_yes h hp, insB_take f 8 (lbK_ss s k) |>.symm, List.take_of_length_le (l := lbK s k) (by omega)]
    rw [insB_far f 8 (lbK_ss s k) (by omega)]
    · exact List.take_of_length_le (by omega)
    · intro y hy
      rw [List.take_of_length_le (by omega)] at hy
      obtain ⟨j, hj, hjy⟩ := List.getElem_of_mem hy
      rcases Nat.lt_or_ge j 7 with h7 | h7
      · exact List.lt_trans (ss_lt (lbK_ss s k) (by rw [List.getElem?_eq_getElem hj, hjy]) hz h7) hzf
      · have : j = 7 := by omega
        subst this
        rw [List.getElem?_eq_getElem hj, hjy] at hz
        injection hz with hz
        rw [hz]; exact hzf
theorem lbP_h1 {s f : ByteArray} (h : hasF s f = true) : lbP s f = false := by rw [lbP, lbQ, h]; simp
theorem lbP_h2 {s f : ByteArray} (h : hasF s (f.extract 1 f.size) = false) : lbP s f = false := by rw [lbP, lbQ, h]; simp
theorem lbP_h3 {s f : ByteArray} (h : hasF s (f.extract 0 (f.size - 1)) = false) : lbP s f = false := by rw [lbP, lbQ, h]; simp
theorem lbP_h4 {s f : ByteArray} (h0 : f.size ≠ 0) (h1 : hasF s f = false) (h2 : hasF s (f.extract 1 f.size) = true) (h3 : hasF s (f.extract 0 (f.size - 1)) = true) : lbP s f = allIn s (L f) := by
  rw [lbP, lbQ, h1, h2, h3, decide_eq_true h0]; simp
theorem lbP_h0 {s f : ByteArray} (h0 : f.size = 0) : lbP s f = false := by rw [lbP, decide_eq_false (by omega)]; simp
theorem lays_size : ∀ n x, x ∈ lays n → x.size ≤ n
  | 0, x, h => by rw [lays, lay, List.mem_singleton] at h; subst h; exact Nat.le_refl 0
  | n + 1, x, h => by
    rw [lays, List.mem_append] at h
    rcases h with h | h
    · have := lays_size n x h; omega
    · rw [lay_size _ x h]; omega
def okL (x : List UInt8) : Bool := x.all fun c => decide (c.toNat < 128)
theorem lay_ascii : ∀ n x, x ∈ lay n → okL (L x) = true
  | 0, x, h => by rw [lay, List.mem_singleton] at h; subst h; rfl
  | n + 1, x, h => by
    rw [lay, spr, List.mem_flatMap] at h
    obtain ⟨v, hv, h2⟩ := h
    obtain ⟨i, hi, rfl⟩ := List.mem_map.1 h2
    have h3 := lay_ascii n v hv
    rw [L_app, okL, List.all_append, ← okL, h3, strOf_L]
    have : i < 4 := List.mem_range.1 hi
    match i, this with
    | 0, _ => rfl
    | 1, _ => rfl
    | 2, _ => rfl
    | 3, _ => rfl
theorem lays_ascii : ∀ n x, x ∈ lays n → okL (L x) = true
  | 0, x, h => lay_ascii 0 x h
  | n + 1, x, h => by
    rw [lays, List.mem_append] at h
    exact h.elim (lays_ascii n x) (lay_ascii _ x)
theorem okL_at {f : ByteArray} (h : okL (L f) = true) (k : Nat) (hk : k < f.size) : (f[k]'hk).toNat < 128 := by
  have := List.all_eq_true.1 h f[k] (List.getElem_mem (l := L f) (n := k) (by rw [L_len]; exact hk))
  simpa using this
/-- Where an iterator along a string, laid last, stands. -/
def posOf (w : World) : Nat := match w.heap[w.heap.size - 1]? with | some (.stringIter _ p) => p | _ => 0
theorem posOf_iter (w : World) (s : ByteArray) (p : Nat) : posOf (w.iter s p) = p := by
  have h : (w.iter s p).heap.size - 1 = w.heap.size := by simp [World.iter]
  rw [posOf, h, World.iter_heap]
theorem StrAt.take {w : World} {g c : Nat} {ss : List ByteArray} (h : StrAt w g c ss) (n : Nat) : StrAt w g c (ss.take n) :=
  ⟨by have := h.1; rw [List.length_take]; omega, h.2.1, h.2.2.1, fun j s hj => h.2.2.2 j s (by
    have hl := (List.getElem?_eq_some_iff.1 hj).1
    rw [List.length_take] at hl
    rwa [List.getElem?_take_of_lt (by omega)] at hj)⟩
theorem ext_one (f : ByteArray) (p : Nat) (h : p < f.size) : f.extract p (p + 1) = strOf [f[p]] := by
  apply ba_eq
  rw [L_extract, strOf_L, List.drop_take, show p + 1 - p = 1 by omega, drop_at f p h]; rfl
theorem lbV_no {s : ByteArray} (h : ¬ (isW (L s) = true ∧ s.size ≠ 0)) : lbV s = [] := by rw [lbV, if_neg h]
end Go.Proofs.YtaihigaafjmpiaaDoor
