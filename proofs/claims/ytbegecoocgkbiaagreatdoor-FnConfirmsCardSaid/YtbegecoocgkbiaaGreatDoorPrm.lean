/- Primitive substitutions, plain: products of signs of square tables. No condition. -/
import Derived.Test.YtbegecoocgkbiaaGreatDoorMtx
namespace Go.Proofs.YtbegecoocgkbiaaGreatDoor
set_option linter.unusedVariables false

def posB (x : Int) : Bool := decide (0 < x)
def fullB (m : List (List Int)) : Bool := m.all fun r => r.all posB
theorem full_next {m : List (List Int)} {k : Nat} {r : List Int} (h : m[k]? = some r) : fullB (m.take (k + 1)) = (fullB (m.take k) && r.all posB) := by
  unfold fullB
  rw [List.take_add_one, h, List.all_append]; simp
theorem all_next {r : List Int} {j : Nat} {x : Int} (h : r[j]? = some x) : (r.take (j + 1)).all posB = ((r.take j).all posB && posB x) := by
  rw [List.take_add_one, h, List.all_append]; simp
/-- The place k of the product of a row with a table, from the row's first i places. -/
def sgT (m : List (List Int)) (r : List Int) (k i : Nat) : Bool := posB (r.getD i 0) && posB ((m.getD i []).getD k 0)
def sgP (m : List (List Int)) (r : List Int) (k : Nat) : Nat → Bool
  | 0 => false
  | i + 1 => sgP m r k i || sgT m r k i
def b2i (b : Bool) : Int := if b then 1 else 0
def sgR (m : List (List Int)) (n : Nat) (r : List Int) : List Int := (List.range n).map fun k => b2i (sgP m r k n)
def sgM (m : List (List Int)) (n : Nat) (p : List (List Int)) : List (List Int) := p.map (sgR m n)
/-- The row while place k of round i is next. -/
def sgL (m : List (List Int)) (r : List Int) (n i k : Nat) : List Int := (List.range n).map fun q => b2i (sgP m r q (if q < k then i + 1 else i))
theorem sgL_len (m : List (List Int)) (r : List Int) (n i k : Nat) : (sgL m r n i k).length = n := by simp [sgL]
theorem sgR_len (m : List (List Int)) (n : Nat) (r : List Int) : (sgR m n r).length = n := by simp [sgR]
theorem sgL_zero (m : List (List Int)) (r : List Int) (n : Nat) : sgL m r n 0 0 = List.replicate n 0 := by
  apply List.ext_getElem?
  intro q
  unfold sgL
  rw [List.getElem?_map, List.getElem?_replicate]
  by_cases h : q < n
  · rw [List.getElem?_range h, if_pos h]; simp [sgP, b2i]
  · rw [List.getElem?_eq_none (by simp; omega), if_neg h]; rfl
theorem sgL_end (m : List (List Int)) (r : List Int) (n i : Nat) : sgL m r n i n = sgL m r n (i + 1) 0 := by
  unfold sgL
  refine List.map_congr_left fun q hq => ?_
  have := List.mem_range.1 hq
  rw [if_pos this, if_neg (by omega)]
theorem sgL_fin (m : List (List Int)) (r : List Int) (n : Nat) : sgL m r n n 0 = sgR m n r := by
  unfold sgL sgR
  refine List.map_congr_left fun q hq => ?_
  rw [if_neg (by omega)]
theorem sgL_no {m : List (List Int)} {r : List Int} {n i k : Nat} (h : sgT m r k i = false) : sgL m r n i (k + 1) = sgL m r n i k := by
  unfold sgL
  refine List.map_congr_left fun q hq => ?_
  by_cases h1 : q < k
  · rw [if_pos h1, if_pos (by omega)]
  · by_cases h2 : q = k
    · subst h2
      rw [if_pos (by omega), if_neg h1, sgP, h, Bool.or_false]
    · rw [if_neg h1, if_neg (by omega)]
theorem sgL_yes {m : List (List Int)} {r : List Int} {n i k : Nat} (h : sgT m r k i = true) (hk : k < n) : sgL m r n i (k + 1) = (sgL m r n i k).set k 1 := by
  apply List.ext_getElem?
  intro q
  rw [List.getElem?_set, sgL_len]
  by_cases hq : q < n
  · unfold sgL
    rw [List.getElem?_map, List.getElem?_map, List.getElem?_range hq]
    simp only [Option.map_some]
    by_cases h2 : k = q
    · subst h2
      rw [if_pos (by omega), if_pos rfl, if_pos hk, sgP, h, Bool.or_true]; rfl
    · rw [if_neg h2]
      by_cases h1 : q < k
      · rw [if_pos h1, if_pos (by omega)]
      · rw [if_neg h1, if_neg (by omega)]
  · rw [List.getElem?_eq_none (by rw [sgL_len]; omega), List.getElem?_eq_none (by rw [sgL_len]; omega)]
    by_cases h2 : k = q
    · omega
    · rw [if_neg h2]
theorem sg_sq {m p : List (List Int)} {n : Nat} (h : p.length = n) : sqM n (sgM m n p) := by
  refine ⟨by rw [sgM, List.length_map, h], fun r hr => ?_⟩
  obtain ⟨y, _, rfl⟩ := List.mem_map.1 hr
  refine ⟨sgR_len m n y, fun x hx => ?_⟩
  obtain ⟨k, _, rfl⟩ := List.mem_map.1 hx
  unfold b2i; split <;> omega
theorem sg_next {m p : List (List Int)} {n k : Nat} {r : List Int} (h : p[k]? = some r) : (sgM m n p).take (k + 1) = (sgM m n p).take k ++ [sgR m n r] := by
  rw [List.take_add_one, sgM, List.getElem?_map, h]; rfl
theorem sgR_next {m : List (List Int)} {n k : Nat} {r : List Int} (h : k < n) : ints ((sgR m n r).take (k + 1)) = ints ((sgR m n r).take k) ++ [Value.int .i64 (b2i (sgP m r k n))] := by
  refine ints_next ?_
  unfold sgR
  rw [List.getElem?_map, List.getElem?_range h]; rfl
def prG (m : List (List Int)) (n : Nat) : Nat → List (List Int) → Bool
  | 0, _ => false
  | f + 1, p => if fullB p = true then true else prG m n f (sgM m n p)
theorem prG_yes {m p : List (List Int)} {n f : Nat} (h : fullB p = true) : prG m n (f + 1) p = true := by rw [prG, if_pos h]
theorem prG_no {m p : List (List Int)} {n f : Nat} (h : fullB p = false) : prG m n (f + 1) p = prG m n f (sgM m n p) := by rw [prG, if_neg (by rw [h]; decide)]
def prV (zs : List ByteArray) : Bool := prG (mtL zs) zs.length 16 (mtL zs)
theorem sgT_at {m : List (List Int)} {r y : List Int} {k i : Nat} {x z : Int} (h1 : r[i]? = some x) (h2 : m[i]? = some y) (h3 : y[k]? = some z) : sgT m r k i = (posB x && posB z) := by
  rw [sgT, List.getD_eq_getElem?_getD, List.getD_eq_getElem?_getD, List.getD_eq_getElem?_getD, h1, h2]
  simp [h3]
theorem b2i_yes {m : List (List Int)} {r : List Int} {k j : Nat} (h : sgT m r k j = true) : b2i (sgP m r k (j + 1)) = 1 := by rw [sgP, h, Bool.or_true]; rfl
theorem b2i_no {m : List (List Int)} {r : List Int} {k j : Nat} (h : sgT m r k j = false) : b2i (sgP m r k (j + 1)) = b2i (sgP m r k j) := by rw [sgP, h, Bool.or_false]
theorem b2i_bd (b : Bool) : 0 ≤ b2i b ∧ b2i b ≤ 1 := by unfold b2i; split <;> omega
attribute [irreducible] prG sgP b2i
end Go.Proofs.YtbegecoocgkbiaaGreatDoor
