/- EditDistance, both: the least number of changes by rows. -/
import Derived.Test.YtaihigaafjmpiaaDoorHelp
import Derived.Test.YtaihigaafjmpiaaDoorStr
import Derived.Deep.RegionHeld3
import Derived.Deep.AppendLies
import Derived.Deep.RegionLaw
namespace Go.Proofs.YtaihigaafjmpiaaDoor
open Go.RowKit
set_option linter.unusedVariables false

theorem add_succ (a : Addr) (k : Nat) : a.add (k + 1) = ⟨a.block, a.off + (k + 1), none⟩ := by unfold Addr.add; rw [if_neg (by omega)]
/-- 'out = append(out, u)' as a step of a region that draws its order: u lies in a block of its own that was laid last, behind one draw. -/
theorem step_append1 {P : Program} {ops : Array Oper} {o : Oper} {a : Act} {w : World} {K : Act → World → Prop} {Q : Exit → Act → World → Prop} {R : Prop} {E : TypeId} {u : Value} (hg : o.guard = none) (s x : Operand) (t : TypeId)
    (ho : o.op = .call { callee := .builtin .append, args := #[s, x], argTypes := #[t, t] })
    (z : Value) (bytes : Nat) (ht : P.underlying t = some (.slice E)) (hinfo : (P.info? E).map (fun i => (i.zero, i.size, i.bytes)) = some (some z, 1, bytes)) (hzs : z.cells.size = 1)
    {v : Value} {xs : List Value} {B : Nat} (hs : a.eval s = v) (hown : Own w B E v xs) (hu : u.oneCell' = true)
    (hx : a.eval x = .slice (some ⟨w.heap.size, 0, none⟩) 1 1) (n : Nat)
    (hl : xs.length = n) (hn : n < 4294967296) (hb16 : bytes ≤ 1024) (hB : B ≤ w.heap.size)
    (h : ∀ A c w', Own w' B E (.slice A (n + 1) c) (xs ++ [u]) → Below B w w' → w.heap.size ≤ w'.heap.size → K (a.put o.dst (.slice A (n + 1) c)) w') :
    if Region.wanted o (yielded ops a.tmps) = true then Oper.wp P o a (w.alloc (.cells #[u] E)).drew K Q else R := by
  have hw : Region.wanted o (yielded ops a.tmps) = true := by simp [Region.wanted, hg]
  rw [if_pos hw]
  obtain ⟨i, hi, hz, hsize, hby⟩ := info_parts hinfo
  subst hl
  have hbel0 : Below B w (w.alloc (.cells #[u] E)).drew := ((Below.refl B w).alloc hB _).drew
  have hown0 : Own (w.alloc (.cells #[u] E)).drew B E v xs := hown.below (((Below.refl _ w).alloc (Nat.le_refl _) _).drew)
  have hcell : (w.alloc (.cells #[u] E)).drew.cell? ⟨w.heap.size, 0, none⟩ = some u := by simp
  refine wp_append_own _ s x t ho B E i z 1 bytes ht hi hz hsize hby hzs (by decide) v xs.length xs hs hown0 ⟨w.heap.size, 0, none⟩ 1 1 [u] hx rfl ?_ ?_ ?_ ?_ (by simp; omega) ?_
  · intro j q hj
    match j, hj with
    | 0, hj => simp only [List.getElem?_cons_zero, Option.some.injEq] at hj; subst hj; exact hcell
  · intro q hq; simp at hq; subst hq; exact hu
  · unfold maxLen; omega
  · calc (xs.length + 1) * bytes ≤ 4294967296 * 1024 := Nat.mul_le_mul (by omega) hb16
      _ ≤ 140737488355328 := by decide
  · intro v' w1 hown' hgrow _
    have hown2 : Own w1 B E v' (xs ++ [u]) := by
      unfold Own; simpa using hown'
    have hbel : Below B w w1 := hbel0.grown hgrow (by simp; omega) (fun k hk => (World.ownsRow.lt hown k hk).1)
    obtain ⟨A, c, hv, _⟩ := hown2.shape
    have hl : (xs ++ [u]).length = xs.length + 1 := by simp
    rw [hl] at hv
    rw [hv]
    rw [hv] at hown2
    exact h A c w1 hown2 hbel hbel.size
theorem min3_walk (a b c : Int) : (if c < (if b < a then b else a) then c else (if b < a then b else a)) = min (min a b) c := by
  split <;> split <;> omega

/-- A row of the table out of the row before it. -/
def nx (d : Nat → Int) (R : Nat → Int) (i : Nat) : Nat → Int
  | 0 => (i : Int) + 1
  | k + 1 => min (min (R k + d k) (R (k + 1) + 1)) (nx d R i k + 1)
/-- The table of the least numbers of changes. -/
def ed (v w : List UInt8) : Nat → Nat → Int
  | 0 => fun k => (k : Int)
  | i + 1 => nx (fun k => if v[i]? = w[k]? then 0 else 1) (ed v w i) i
def rowL (R : Nat → Int) (n : Nat) : List Value := (List.range n).map fun k => Value.int .i64 (R k)
theorem rowL_length (R : Nat → Int) (n : Nat) : (rowL R n).length = n := by simp [rowL]
theorem rowL_at (R : Nat → Int) (n k : Nat) (h : k < n) : (rowL R n)[k]? = some (.int .i64 (R k)) := by simp [rowL, List.getElem?_range h]
theorem rowL_succ (R : Nat → Int) (n : Nat) : rowL R (n + 1) = rowL R n ++ [.int .i64 (R n)] := by simp [rowL, List.range_succ]
theorem nx_bd (d R : Nat → Int) (i : Nat) (hd : ∀ k, 0 ≤ d k) (hR : ∀ k, 0 ≤ R k) : ∀ k, 0 ≤ nx d R i k ∧ nx d R i k ≤ (i : Int) + 1 + k
  | 0 => by simp only [nx]; omega
  | k + 1 => by have := nx_bd d R i hd hR k; have := hd k; have := hR k; have := hR (k + 1); simp only [nx]; omega
theorem ed_bd (v w : List UInt8) : ∀ i k, 0 ≤ ed v w i k ∧ ed v w i k ≤ (i : Int) + k
  | 0, k => by simp [ed]
  | i + 1, k => by
    have := nx_bd (fun k => if v[i]? = w[k]? then 0 else 1) (ed v w i) i (fun k => by split <;> omega) (fun k => (ed_bd v w i k).1) k
    simp only [ed]; omega

theorem L_atE (s : ByteArray) (i : Nat) (h : i < s.size) : (L s)[i]? = some s[i] := by
  rw [List.getElem?_eq_getElem (by simpa using h)]; rfl
theorem ed_eq (s t : ByteArray) (i k : Nat) (hi : i < s.size) (hk : k < t.size) (h : s[i] = t[k]) :
    (if ed (L s) (L t) (i + 1) k + 1 < (if ed (L s) (L t) i (k + 1) + 1 < ed (L s) (L t) i k then ed (L s) (L t) i (k + 1) + 1 else ed (L s) (L t) i k) then ed (L s) (L t) (i + 1) k + 1
      else (if ed (L s) (L t) i (k + 1) + 1 < ed (L s) (L t) i k then ed (L s) (L t) i (k + 1) + 1 else ed (L s) (L t) i k)) = ed (L s) (L t) (i + 1) (k + 1) := by
  rw [min3_walk]
  show _ = min (min (ed (L s) (L t) i k + (if (L s)[i]? = (L t)[k]? then 0 else 1)) (ed (L s) (L t) i (k + 1) + 1)) (ed (L s) (L t) (i + 1) k + 1)
  rw [L_atE s i hi, L_atE t k hk, h, if_pos rfl, Int.add_zero]
theorem ed_ne (s t : ByteArray) (i k : Nat) (hi : i < s.size) (hk : k < t.size) (h : s[i] ≠ t[k]) :
    (if ed (L s) (L t) (i + 1) k + 1 < (if ed (L s) (L t) i (k + 1) < ed (L s) (L t) i k then ed (L s) (L t) i (k + 1) + 1 else ed (L s) (L t) i k + 1) then ed (L s) (L t) (i + 1) k + 1
      else (if ed (L s) (L t) i (k + 1) < ed (L s) (L t) i k then ed (L s) (L t) i (k + 1) + 1 else ed (L s) (L t) i k + 1)) = ed (L s) (L t) (i + 1) (k + 1) := by
  show _ = min (min (ed (L s) (L t) i k + (if (L s)[i]? = (L t)[k]? then 0 else 1)) (ed (L s) (L t) i (k + 1) + 1)) (ed (L s) (L t) (i + 1) k + 1)
  have hd : (if (L s)[i]? = (L t)[k]? then (0 : Int) else 1) = 1 := by rw [L_atE s i hi, L_atE t k hk, if_neg (by simpa using h)]
  rw [hd]
  split <;> split <;> omega
end Go.Proofs.YtaihigaafjmpiaaDoor
