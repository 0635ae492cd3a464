/- Repairs, the plain part: the fewest changes from each place on, the first word that has them. No condition. -/
import Derived.Test.YtfjmopiofcbpgaaAllow
import Derived.Test.YtfjmopiofcbpgaaByt
namespace Go.Proofs.Ytfjmopiofcbpgaa
open Go.RowKit
set_option linter.unusedVariables false

/-- The k-th letter. -/
def lt (k : Nat) : UInt8 := UInt8.ofNat (97 + k)
def prS (p k : Nat) : ByteArray := strOf [lt p, lt k]
def hasP (ss : List ByteArray) (p k : Nat) : Bool := hasS ss (prS p k)
def dif (b : UInt8) (k : Nat) : Bool := !(b == 63) && !(b == lt k)
def cst (st : Bool) (b : UInt8) (k : Nat) : Int := if dif b k then (if st then 1000 else 1) else 0
/-- The least cost behind letter k, among the first n letters. -/
def bst (ss : List ByteArray) (k : Nat) (r : List Int) : Nat → Int
  | 0 => 1000
  | n + 1 => if hasP ss k n then min (bst ss k r n) (r.getD n 0) else bst ss k r n
def cellC (st : Bool) (ss : List ByteArray) (b : UInt8) (nx : List (List Int)) (k : Nat) : Int :=
  min 1000 (cst st b k + (match nx with | [] => 0 | r :: _ => bst ss k r 4))
def lineC (st : Bool) (ss : List ByteArray) (b : UInt8) (nx : List (List Int)) : List Int := [cellC st ss b nx 0, cellC st ss b nx 1, cellC st ss b nx 2, cellC st ss b nx 3]
def rowsC (st : Bool) (ss : List ByteArray) : List UInt8 → List (List Int)
  | [] => []
  | b :: r => lineC st ss b (rowsC st ss r) :: rowsC st ss r
/-- The costs at place i. -/
def crow (st : Bool) (ss : List ByteArray) (l : List UInt8) (i : Nat) : List Int := lineC st ss (l.getD i 0) (rowsC st ss (l.drop (i + 1)))
theorem crow_length (st : Bool) (ss : List ByteArray) (l : List UInt8) (i : Nat) : (crow st ss l i).length = 4 := rfl
theorem crow_at (st : Bool) (ss : List ByteArray) (l : List UInt8) (i k : Nat) (hk : k < 4) : (crow st ss l i)[k]? = some (cellC st ss (l.getD i 0) (rowsC st ss (l.drop (i + 1))) k) := by
  match k, hk with
  | 0, _ => rfl
  | 1, _ => rfl
  | 2, _ => rfl
  | 3, _ => rfl
theorem rows_drop (st : Bool) (ss : List ByteArray) (l : List UInt8) (i : Nat) (h : i < l.length) : rowsC st ss (l.drop i) = crow st ss l i :: rowsC st ss (l.drop (i + 1)) := by
  rw [List.drop_eq_getElem_cons h, rowsC, crow]
  congr 2
  simp [List.getD, h]
theorem cell_last (st : Bool) (ss : List ByteArray) (l : List UInt8) (i k : Nat) (hk : k < 4) (h : i + 1 = l.length) : (crow st ss l i)[k]? = some (min 1000 (cst st (l.getD i 0) k + 0)) := by
  rw [crow_at _ _ _ _ _ hk, List.drop_eq_nil_of_le (by omega)]; rfl
theorem cell_next (st : Bool) (ss : List ByteArray) (l : List UInt8) (i k : Nat) (hk : k < 4) (h : i + 1 < l.length) : (crow st ss l i)[k]? = some (min 1000 (cst st (l.getD i 0) k + bst ss k (crow st ss l (i + 1)) 4)) := by
  rw [crow_at _ _ _ _ _ hk, rows_drop _ _ _ _ h]; rfl
theorem bst_le (ss : List ByteArray) (k : Nat) (r : List Int) : ∀ n, bst ss k r n ≤ 1000
  | 0 => Int.le_refl _
  | n + 1 => by
    have := bst_le ss k r n
    unfold bst; split <;> omega
theorem bst_ge (ss : List ByteArray) (k : Nat) (r : List Int) (hr : ∀ n, n < 4 → 0 ≤ r.getD n 0) : ∀ n, n ≤ 4 → 0 ≤ bst ss k r n
  | 0, _ => by unfold bst; omega
  | n + 1, h => by
    have h1 := bst_ge ss k r hr n (by omega)
    have h2 := hr n (by omega)
    unfold bst; split <;> omega
theorem bst_some (ss : List ByteArray) (k : Nat) (r : List Int) : ∀ n, bst ss k r n < 1000 → ∃ m, m < n ∧ hasP ss k m = true ∧ r.getD m 0 = bst ss k r n
  | 0, h => by unfold bst at h; omega
  | n + 1, h => by
    unfold bst at h ⊢
    by_cases hp : hasP ss k n = true
    · rw [if_pos hp] at h ⊢
      by_cases hle : bst ss k r n ≤ r.getD n 0
      · rw [Int.min_eq_left hle] at h ⊢
        obtain ⟨m, h1, h2, h3⟩ := bst_some ss k r n h
        exact ⟨m, by omega, h2, h3⟩
      · exact ⟨n, by omega, hp, by omega⟩
    · rw [if_neg hp] at h ⊢
      obtain ⟨m, h1, h2, h3⟩ := bst_some ss k r n h
      exact ⟨m, by omega, h2, h3⟩
theorem cst_ge (st : Bool) (b : UInt8) (k : Nat) : 0 ≤ cst st b k ∧ cst st b k ≤ 1000 := by
  unfold cst; split
  · split <;> omega
  · omega
theorem crow_ge (st : Bool) (ss : List ByteArray) (l : List UInt8) : ∀ m i, i + m = l.length → ∀ k, k < 4 → 0 ≤ (crow st ss l i).getD k 0 ∧ (crow st ss l i).getD k 0 ≤ 1000
  | 0, i, h, k, hk => by
    have := crow_at st ss l i k hk
    rw [List.drop_eq_nil_of_le (by omega)] at this
    rw [List.getD_eq_getElem?_getD, this]
    show 0 ≤ min 1000 (cst st _ k + 0) ∧ min 1000 (cst st _ k + 0) ≤ 1000
    have := cst_ge st (l.getD i 0) k
    omega
  | m + 1, i, h, k, hk => by
    have h0 := cst_ge st (l.getD i 0) k
    by_cases h1 : i + 1 = l.length
    · rw [List.getD_eq_getElem?_getD, cell_last st ss l i k hk h1]
      simp only [Option.getD_some]; omega
    · have ih := crow_ge st ss l m (i + 1) (by omega)
      have h2 := bst_ge ss k (crow st ss l (i + 1)) (fun n hn => (ih n hn).1) 4 (by omega)
      have h3 := bst_le ss k (crow st ss l (i + 1)) 4
      rw [List.getD_eq_getElem?_getD, cell_next st ss l i k hk (by omega)]
      simp only [Option.getD_some]; omega

def okA (ss : List ByteArray) (prev : Option Nat) (k : Nat) : Bool := match prev with | none => true | some p => hasP ss p k
def fits (ss : List ByteArray) (r : List Int) (left : Int) (prev : Option Nat) (k : Nat) : Bool := decide (r.getD k 0 = left) && okA ss prev k
/-- The first letter from k on that fits. -/
def pkK (ss : List ByteArray) (r : List Int) (left : Int) (prev : Option Nat) : Nat → Nat → Option Nat
  | 0, _ => none
  | n + 1, k => if fits ss r left prev k then some k else pkK ss r left prev n (k + 1)
def left' (b : UInt8) (k : Nat) (left : Int) : Int := if dif b k then left - 1 else left
/-- The letters from place i on. -/
def pk (st : Bool) (ss : List ByteArray) (l : List UInt8) : Nat → Nat → Option Nat → Int → List Nat
  | 0, _, _, _ => []
  | m + 1, i, prev, left => match pkK ss (crow st ss l i) left prev 4 0 with
    | none => []
    | some k => k :: pk st ss l m (i + 1) (some k) (left' (l.getD i 0) k left)
def Good (st : Bool) (ss : List ByteArray) (l : List UInt8) (i : Nat) (prev : Option Nat) (left : Int) : Prop := left < 1000 ∧ (i < l.length → ∃ k, k < 4 ∧ fits ss (crow st ss l i) left prev k = true)
theorem pkK_some {ss : List ByteArray} {r : List Int} {left : Int} {prev : Option Nat} : ∀ {n k m : Nat}, pkK ss r left prev n k = some m → k ≤ m ∧ m < k + n ∧ fits ss r left prev m = true
  | 0, k, m, h => by unfold pkK at h; cases h
  | n + 1, k, m, h => by
    unfold pkK at h
    by_cases hf : fits ss r left prev k = true
    · rw [if_pos hf] at h; injection h with h; subst h
      exact ⟨Nat.le_refl _, by omega, hf⟩
    · rw [if_neg hf] at h
      have := pkK_some h
      exact ⟨by omega, by omega, this.2.2⟩
theorem pkK_none {ss : List ByteArray} {r : List Int} {left : Int} {prev : Option Nat} : ∀ {n k : Nat}, pkK ss r left prev n k = none → ∀ m, k ≤ m → m < k + n → fits ss r left prev m = false
  | 0, k, h, m, h1, h2 => by omega
  | n + 1, k, h, m, h1, h2 => by
    unfold pkK at h
    by_cases hf : fits ss r left prev k = true
    · rw [if_pos hf] at h; cases h
    · rw [if_neg hf] at h
      by_cases hm : m = k
      · subst hm; simpa using hf
      · exact pkK_none h m (by omega) (by omega)
theorem good_step {st : Bool} {ss : List ByteArray} {l : List UInt8} {i k : Nat} {prev : Option Nat} {left : Int} (hg : left < 1000) (hi : i < l.length) (hk : k < 4) (hf : fits ss (crow st ss l i) left prev k = true) :
    Good st ss l (i + 1) (some k) (left' (l.getD i 0) k left) := by
  unfold fits at hf
  simp only [Bool.and_eq_true, decide_eq_true_eq] at hf
  have hc := hf.1
  rw [List.getD_eq_getElem?_getD] at hc
  refine ⟨by unfold left'; split <;> omega, fun h1 => ?_⟩
  rw [cell_next st ss l i k hk h1] at hc
  simp only [Option.getD_some] at hc
  have ih := crow_ge st ss l (l.length - (i + 1)) (i + 1) (by omega)
  have h2 := bst_ge ss k (crow st ss l (i + 1)) (fun n hn => (ih n hn).1) 4 (by omega)
  have h0 := cst_ge st (l.getD i 0) k
  have hb : bst ss k (crow st ss l (i + 1)) 4 < 1000 := by omega
  obtain ⟨m, hm, hp, he⟩ := bst_some ss k _ 4 hb
  refine ⟨m, hm, ?_⟩
  unfold fits
  rw [decide_eq_true, Bool.true_and]
  · exact hp
  · rw [he]
    unfold left' cst at *
    by_cases hd : dif (l.getD i 0) k = true
    · rw [if_pos hd] at hc ⊢
      cases st
      · simp at hc; omega
      · simp at hc; omega
    · rw [if_neg hd] at hc ⊢
      omega
def min4 (r : List Int) : Int := min (r.getD 0 0) (min (r.getD 1 0) (min (r.getD 2 0) (r.getD 3 0)))
def total (st : Bool) (ss : List ByteArray) (l : List UInt8) : Int := min4 (crow st ss l 0)
theorem good_start {st : Bool} {ss : List ByteArray} {l : List UInt8} (h : total st ss l < 1000) : Good st ss l 0 none (total st ss l) := by
  refine ⟨h, fun _ => ?_⟩
  have : ∃ k, k < 4 ∧ (crow st ss l 0).getD k 0 = total st ss l := by
    have hc : ∀ a b : Int, min a b = a ∨ min a b = b := fun a b => by omega
    unfold total min4
    rcases hc ((crow st ss l 0).getD 0 0) (min ((crow st ss l 0).getD 1 0) (min ((crow st ss l 0).getD 2 0) ((crow st ss l 0).getD 3 0))) with h1 | h1
    · exact ⟨0, by omega, h1.symm⟩
    · rw [h1]
      rcases hc ((crow st ss l 0).getD 1 0) (min ((crow st ss l 0).getD 2 0) ((crow st ss l 0).getD 3 0)) with h2 | h2
      · exact ⟨1, by omega, h2.symm⟩
      · rw [h2]
        rcases hc ((crow st ss l 0).getD 2 0) ((crow st ss l 0).getD 3 0) with h3 | h3
        · exact ⟨2, by omega, h3.symm⟩
        · exact ⟨3, by omega, h3.symm⟩
  obtain ⟨k, hk, he⟩ := this
  refine ⟨k, hk, ?_⟩
  unfold fits okA
  rw [decide_eq_true he]; rfl
theorem total_bd (st : Bool) (ss : List ByteArray) (l : List UInt8) : 0 ≤ total st ss l ∧ total st ss l ≤ 1000 := by
  have h := crow_ge st ss l (l.length - 0) 0 (by omega)
  have h0 := h 0 (by omega)
  have h1 := h 1 (by omega)
  have h2 := h 2 (by omega)
  have h3 := h 3 (by omega)
  unfold total min4
  omega
/-- The letters of the repaired word. -/
def repL (st : Bool) (ss : List ByteArray) (l : List UInt8) : List Nat := if l = [] then [] else if total st ss l < 1000 then pk st ss l l.length 0 none (total st ss l) else []
def tot (st : Bool) (ss : List ByteArray) (l : List UInt8) : Int := if l = [] then 0 else total st ss l
def outS (o : List Nat) : ByteArray := strOf (o.map lt)
def repS (st : Bool) (ss : List ByteArray) (l : List UInt8) : ByteArray := outS (repL st ss l)

/-- With what may not be changed: none or no way. -/
theorem bst_strict (ss : List ByteArray) (k : Nat) (r q : List Int) (h : ∀ n, n < 4 → q.getD n 0 = if r.getD n 0 = 0 then 0 else 1000) (h0 : ∀ n, n < 4 → 0 ≤ r.getD n 0 ∧ r.getD n 0 ≤ 1000) : ∀ n, n ≤ 4 → 0 ≤ bst ss k r n ∧ bst ss k q n = if bst ss k r n = 0 then 0 else 1000
  | 0, _ => ⟨by unfold bst; omega, rfl⟩
  | n + 1, hn => by
    have ih := bst_strict ss k r q h h0 n (by omega)
    have h1 := h n (by omega)
    have h2 := h0 n (by omega)
    unfold bst
    by_cases hp : hasP ss k n = true
    · rw [if_pos hp, if_pos hp, ih.2, h1]
      by_cases e1 : bst ss k r n = 0 <;> by_cases e2 : r.getD n 0 = 0
      · rw [if_pos e1, if_pos e2, e1, e2]; exact ⟨by decide, rfl⟩
      · rw [if_pos e1, if_neg e2, if_pos (by omega)]; omega
      · rw [if_neg e1, if_pos e2, if_pos (by omega)]; omega
      · rw [if_neg e1, if_neg e2, if_neg (by omega)]; omega
    · rw [if_neg hp, if_neg hp]; exact ih
theorem crow_strict (ss : List ByteArray) (l : List UInt8) : ∀ m i, i + m = l.length → 0 < m → ∀ k, k < 4 → (crow true ss l i).getD k 0 = if (crow false ss l i).getD k 0 = 0 then 0 else 1000
  | 0, i, h, h0, k, hk => by omega
  | m + 1, i, h, _, k, hk => by
    have e : cst true (l.getD i 0) k = if cst false (l.getD i 0) k = 0 then 0 else 1000 := by
      unfold cst; split <;> rfl
    have g := cst_ge false (l.getD i 0) k
    rw [List.getD_eq_getElem?_getD, List.getD_eq_getElem?_getD]
    by_cases h1 : i + 1 = l.length
    · rw [cell_last _ ss l i k hk h1, cell_last _ ss l i k hk h1]
      simp only [Option.getD_some]
      rw [e]
      split
      · rename_i h; rw [h]; rfl
      · rw [if_neg (by omega)]; omega
    · have ih := crow_strict ss l m (i + 1) (by omega) (by omega)
      have h0 := crow_ge false ss l m (i + 1) (by omega)
      have hb := bst_strict ss k _ _ ih h0 4 (by omega)
      have hb2 := bst_le ss k (crow false ss l (i + 1)) 4
      rw [cell_next _ ss l i k hk (by omega), cell_next _ ss l i k hk (by omega)]
      simp only [Option.getD_some]
      rw [e, hb.2]
      by_cases e1 : cst false (l.getD i 0) k = 0 <;> by_cases e2 : bst ss k (crow false ss l (i + 1)) 4 = 0
      · rw [e1, e2]; rfl
      · rw [if_pos e1, if_neg e2, if_neg (by omega)]; omega
      · rw [if_neg e1, if_pos e2, if_neg (by omega)]; omega
      · rw [if_neg e1, if_neg e2, if_neg (by omega)]; omega
theorem total_strict (ss : List ByteArray) (l : List UInt8) (hl : 0 < l.length) : total true ss l = if total false ss l = 0 then 0 else 1000 := by
  have h := crow_strict ss l l.length 0 (by omega) hl
  have g := crow_ge false ss l l.length 0 (by omega)
  have h0 := h 0 (by omega); have h1 := h 1 (by omega); have h2 := h 2 (by omega); have h3 := h 3 (by omega)
  have g0 := g 0 (by omega); have g1 := g 1 (by omega); have g2 := g 2 (by omega); have g3 := g 3 (by omega)
  unfold total min4
  rw [h0, h1, h2, h3]
  split <;> split <;> split <;> split <;> split <;> omega
theorem cell_zero {ss : List ByteArray} {l : List UInt8} {i k : Nat} (hi : i < l.length) (hk : k < 4) (h : (crow false ss l i).getD k 0 = 0) : dif (l.getD i 0) k = false := by
  rw [List.getD_eq_getElem?_getD, crow_at _ _ _ _ _ hk] at h
  simp only [Option.getD_some] at h
  cases hd : dif (l.getD i 0) k
  · rfl
  · exfalso
    unfold cellC cst at h
    rw [if_pos hd] at h
    have : 0 ≤ (match rowsC false ss (l.drop (i + 1)) with | [] => 0 | r :: _ => bst ss k r 4) := by
      by_cases h1 : i + 1 = l.length
      · rw [List.drop_eq_nil_of_le (by omega)]; exact Int.le_refl _
      · rw [rows_drop _ _ _ _ (by omega)]
        have ih := crow_ge false ss l (l.length - (i + 1)) (i + 1) (by omega)
        exact bst_ge ss k (crow false ss l (i + 1)) (fun n hn => (ih n hn).1) 4 (by omega)
    simp only [Bool.false_eq_true, if_false] at h
    omega
theorem pkK_strict {ss : List ByteArray} {l : List UInt8} {i : Nat} {prev : Option Nat} (hi : i < l.length) : ∀ n k, k + n = 4 → pkK ss (crow true ss l i) 0 prev n k = pkK ss (crow false ss l i) 0 prev n k
  | 0, _, _ => rfl
  | n + 1, k, h => by
    unfold pkK
    rw [pkK_strict hi n (k + 1) (by omega)]
    have : fits ss (crow true ss l i) 0 prev k = fits ss (crow false ss l i) 0 prev k := by
      unfold fits
      congr 1
      rw [crow_strict ss l (l.length - i) i (by omega) (by omega) k (by omega)]
      by_cases h0 : (crow false ss l i).getD k 0 = 0
      · rw [if_pos h0, h0]
      · rw [if_neg h0, decide_eq_false h0]; rfl
    rw [this]
theorem pk_strict {ss : List ByteArray} {l : List UInt8} : ∀ m i prev, i + m = l.length → pk true ss l m i prev 0 = pk false ss l m i prev 0
  | 0, _, _, _ => rfl
  | m + 1, i, prev, h => by
    unfold pk
    rw [pkK_strict (by omega) 4 0 rfl]
    cases hk : pkK ss (crow false ss l i) 0 prev 4 0 with
    | none => rfl
    | some k =>
      have h1 := pkK_some hk
      have h2 := h1.2.2
      unfold fits at h2
      simp only [Bool.and_eq_true, decide_eq_true_eq] at h2
      have h3 := cell_zero (by omega) (by omega) h2.1
      simp only [left', h3, Bool.false_eq_true, if_false]
      rw [pk_strict m (i + 1) (some k) (by omega)]
/-- The two ways to fill a word's gaps agree. -/
theorem fill_agree (ss : List ByteArray) (l : List UInt8) : (tot false ss l ≤ 0 → tot true ss l = 0 ∧ repL true ss l = repL false ss l) ∧ (0 < tot false ss l → tot true ss l = 1000 ∧ repL true ss l = []) := by
  unfold tot repL
  by_cases h0 : l = []
  · rw [if_pos h0, if_pos h0, if_pos h0]
    exact ⟨fun _ => ⟨rfl, by rw [if_pos h0]⟩, fun h => by omega⟩
  · have hl : 0 < l.length := by
      cases l with
      | nil => exact absurd rfl h0
      | cons a b => simp
    rw [if_neg h0, if_neg h0, if_neg h0, if_neg h0]
    have ht := total_strict ss l hl
    have hb := total_bd false ss l
    refine ⟨fun h => ?_, fun h => ?_⟩
    · have hz : total false ss l = 0 := by omega
      rw [hz, if_pos rfl] at ht
      rw [ht, hz]
      exact ⟨rfl, by rw [if_pos (by decide), if_pos (by decide), pk_strict _ _ _ (by omega)]⟩
    · rw [if_neg (by omega)] at ht
      rw [ht]
      exact ⟨rfl, by rw [if_neg (by decide)]⟩
theorem run_min4 {P : Program} (w : World) (ts : Array TypeId) (t : TypeId) (a b c d : Int) : (Builtin.min_ ts t #[.int .i64 a, .int .i64 b, .int .i64 c, .int .i64 d]).run P w = .ok (.int .i64 (min a (min b (min c d)))) w := by
  have h : ∀ x y : Int, (if y < x then y else x) = min x y := fun x y => by split <;> omega
  rw [← Int.min_assoc, ← Int.min_assoc]
  simp only [← h]
  simp [Builtin.min_, Builtin.min2]
end Go.Proofs.Ytfjmopiofcbpgaa
