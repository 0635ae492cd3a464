/- One append, beside rows of words in other blocks; where a word stands in an ordered list. No condition but the bounds. -/
import Derived.Test.YtaihigaafjmpiaaDoorIns
import Derived.Deep.AppendLies
import Derived.Deep.RegionHeld3
import Derived.Deep.RegionLaw
namespace Go.Proofs.YtaihigaafjmpiaaDoor
open Go.RowKit
set_option linter.unusedVariables false

section
variable {P : Program} {w : World} {B : Nat} {E : TypeId} {xs : List Value} {go : Nat}
/-- Rows of words in blocks other than g stay, and lie in blocks other than g'. -/
def Stay (w w' : World) (g g' : Nat) : Prop := ∀ q c ss, StrAt w q c ss → q ≠ g → StrAt w' q c ss ∧ q ≠ g'
theorem wp_append3 {ops : Array Oper} {rest : List Oper} {o : Oper} {a : Act} {Q : Exit → Act → World → Prop} (hgd : o.guard = none) (s x : Operand) (t : TypeId)
    (ho : o.op = .call { callee := .builtin .append, args := #[s, x], argTypes := #[t, t] })
    (z : Value) (bytes : Nat) (ht : P.underlying t = some (.slice E)) (hinfo : (P.info? E).map (fun i => (i.zero, i.size, i.bytes)) = some (some z, 1, bytes)) (hzs : z.cells.size = 1)
    (m c : Nat) (hs : a.eval s = .slice (some ⟨go, 0, none⟩) m c) (hown : Own w B E (.slice (some ⟨go, 0, none⟩) m c) xs) (u : Value) (hu : u.oneCell' = true)
    (hx : a.eval x = .slice (some ⟨w.heap.size, 0, none⟩) 1 1)
    (hl : xs.length = m) (hn : m < 4294967296) (hb16 : bytes ≤ 1024) (hB : B ≤ w.heap.size)
    (h : ∀ g c w', Own w' B E (.slice (some ⟨g, 0, none⟩) (m + 1) c) (xs ++ [u]) → Below B w w' → w.heap.size ≤ w'.heap.size → Stay w w' go g → wpList P ops Q rest (a.put o.dst (.slice (some ⟨g, 0, none⟩) (m + 1) c)) w') :
    wpList P ops Q (o :: rest) a (w.alloc (.cells #[u] E)) := by
  obtain ⟨i, hi, hz, hsize, hby⟩ := info_parts hinfo
  subst hl
  refine wpList_append_lies (w.alloc (.cells #[u] E)) hgd s x t ho B E i z 1 bytes ht hi hz hsize hby hzs (by decide) _ xs.length xs hs (World.ownsRow.alloc hown _)
    ⟨w.heap.size, 0, none⟩ 1 1 [u] hx rfl ?_ ?_ (by decide) ?_ ?_ ?_ (w.heap.size + 1) (by simp) ?_
  · intro j q hj
    match j, hj with
    | 0, hj => simp at hj; subst hj; simp [Addr.add]
  · intro q hq; simp at hq; subst hq; exact hu
  · unfold maxLen; omega
  · calc (xs.length + 1) * bytes ≤ 4294967296 * 1024 := Nat.mul_le_mul (by omega) hb16
      _ ≤ 140737488355328 := by decide
  · simp; omega
  · intro g cap w1 hown' hgrow hat hgl
    have hown2 : Own w1 B E (.slice (some ⟨g, 0, none⟩) (xs.length + 1) cap) (xs ++ [u]) := by
      unfold Own; simpa using hown'
    have hbel : Below B w w1 := by
      refine ((Below.refl B w).alloc hB _).grown hgrow (by simp; omega) ?_
      intro k hk
      exact (World.ownsRow.lt hown k hk).1
    have hst : Stay w w1 go g := fun q c' ss hq hne => by
      have hq1 := hq.below ((Below.refl w.heap.size w).alloc (Nat.le_refl _) (.cells #[u] E))
      have hgo : (Value.slice (some ⟨go, 0, none⟩) xs.length c).ownBlock = some go := rfl
      rw [hgo] at hgrow hat
      refine ⟨⟨hq.1, hq.2.1, by have := hq.2.2.1; have := hbel.size; omega, fun j s hs => ?_⟩, fun hqe => ?_⟩
      · exact hgrow.cell (hq1.2.2.2 j s hs) (by simpa using hne)
      · rcases hat with h1 | h1
        · injection h1 with h1; omega
        · have := hq.2.2.1; omega
    exact h g cap w1 hown2 hbel hbel.size hst
theorem step_append3 {ops : Array Oper} {o : Oper} {a : Act} {K : Act → World → Prop} {Q : Exit → Act → World → Prop} {R : Prop} {u : Value} (hg : o.guard = none) (s x : Operand) (t : TypeId)
    (ho : o.op = .call { callee := .builtin .append, args := #[s, x], argTypes := #[t, t] })
    (z : Value) (bytes : Nat) (ht : P.underlying t = some (.slice E)) (hinfo : (P.info? E).map (fun i => (i.zero, i.size, i.bytes)) = some (some z, 1, bytes)) (hzs : z.cells.size = 1)
    (m c : Nat) (hs : a.eval s = .slice (some ⟨go, 0, none⟩) m c) (hown : Own w B E (.slice (some ⟨go, 0, none⟩) m c) xs) (hu : u.oneCell' = true)
    (hx : a.eval x = .slice (some ⟨w.heap.size, 0, none⟩) 1 1)
    (hl : xs.length = m) (hn : m < 4294967296) (hb16 : bytes ≤ 1024) (hB : B ≤ w.heap.size)
    (h : ∀ g c w', Own w' B E (.slice (some ⟨g, 0, none⟩) (m + 1) c) (xs ++ [u]) → Below B w w' → w.heap.size ≤ w'.heap.size → Stay w w' go g → K (a.put o.dst (.slice (some ⟨g, 0, none⟩) (m + 1) c)) w') :
    if Region.wanted o (yielded ops a.tmps) = true then Oper.wp P o a (w.alloc (.cells #[u] E)).drew K Q else R := by
  obtain ⟨i, hi, hz, hsize, hby⟩ := info_parts hinfo
  subst hl
  have hb1 : Below w.heap.size w (w.alloc (.cells #[u] E)).drew := ((Below.refl _ w).alloc (Nat.le_refl _) _).drew
  have hbel0 : Below B w (w.alloc (.cells #[u] E)).drew := ((Below.refl B w).alloc hB _).drew
  have hown0 : Own (w.alloc (.cells #[u] E)).drew B E (.slice (some ⟨go, 0, none⟩) xs.length c) xs := hown.below hb1
  have hcell : (w.alloc (.cells #[u] E)).drew.cell? ⟨w.heap.size, 0, none⟩ = some u := by simp
  refine step_append_lies _ hg s x t ho B E i z 1 bytes ht hi hz hsize hby hzs (by decide) _ xs.length xs hs hown0 ⟨w.heap.size, 0, none⟩ 1 1 [u] hx rfl ?_ ?_ (by decide) ?_ ?_ (by simp; omega) (w.heap.size + 1) (by simp) ?_
  · intro j q hj
    match j, hj with
    | 0, hj => simp only [List.getElem?_cons_zero, Option.some.injEq] at hj; subst hj; exact hcell
  · intro q hq; simp at hq; subst hq; exact hu
  · unfold maxLen; omega
  · calc (xs.length + 1) * bytes ≤ 4294967296 * 1024 := Nat.mul_le_mul (by omega) hb16
      _ ≤ 140737488355328 := by decide
  · intro g cap w1 hown' hgrow hat hgl
    have hown2 : Own w1 B E (.slice (some ⟨g, 0, none⟩) (xs.length + 1) cap) (xs ++ [u]) := by
      unfold Own; simpa using hown'
    have hbel : Below B w w1 := hbel0.grown hgrow (by simp; omega) (fun k hk => (World.ownsRow.lt hown k hk).1)
    have hst : Stay w w1 go g := fun q c' ss hq hne => by
      have hq1 := hq.below hb1
      have hgo : (Value.slice (some ⟨go, 0, none⟩) xs.length c).ownBlock = some go := rfl
      rw [hgo] at hgrow hat
      refine ⟨⟨hq.1, hq.2.1, by have := hq.2.2.1; have := hbel.size; omega, fun j s hs => ?_⟩, fun hqe => ?_⟩
      · exact hgrow.cell (hq1.2.2.2 j s hs) (by simpa using hne)
      · rcases hat with h1 | h1
        · injection h1 with h1; omega
        · have := hq.2.2.1; omega
    exact h g cap w1 hown2 hbel hbel.size hst
end
theorem ixGo_mem (x : ByteArray) : ∀ (r : List ByteArray) (i : Int), 0 ≤ i → (0 ≤ ixGo x r i ↔ x ∈ r)
  | [], i, h => by simp [ixGo]
  | y :: r, i, h => by
    unfold ixGo
    by_cases hx : x = y
    · rw [if_pos hx]; subst hx; simp [h]
    · rw [if_neg hx, ixGo_mem x r (i + 1) (by omega)]; simp [hx]
theorem hasS_mem (ss : List ByteArray) (x : ByteArray) : hasS ss x = true ↔ x ∈ ss := by
  unfold hasS; rw [decide_eq_true_eq]; exact ixGo_mem x ss 0 (Int.le_refl _)
theorem ss_lt {ss : List ByteArray} (h : SS ss) {i j : Nat} {a b : ByteArray} (hi : ss[i]? = some a) (hj : ss[j]? = some b) (hij : i < j) : L a < L b := by
  obtain ⟨h1, rfl⟩ := List.getElem?_eq_some_iff.1 hi
  obtain ⟨h2, rfl⟩ := List.getElem?_eq_some_iff.1 hj
  exact List.pairwise_iff_getElem.1 h i j h1 h2 hij
/-- Where the halving ends, x stands or it stands nowhere. -/
theorem ss_found {ss : List ByteArray} (h : SS ss) {x : ByteArray} {k : Nat} (h1 : ∀ j a, j < k → ss[j]? = some a → L a < L x) (h2 : ∀ j a, k ≤ j → ss[j]? = some a → ¬ L a < L x) : x ∈ ss ↔ ss[k]? = some x := by
  constructor
  · intro hx
    obtain ⟨j, hj, hjx⟩ := List.getElem_of_mem hx
    have hj' : ss[j]? = some x := by rw [List.getElem?_eq_getElem hj, hjx]
    rcases Nat.lt_trichotomy j k with h3 | h3 | h3
    · exact absurd (h1 j x h3 hj') (List.lt_irrefl _)
    · subst h3; exact hj'
    · obtain ⟨a, ha⟩ := some_of_lt (l := ss) (k := k) (by omega)
      exact absurd (ss_lt h ha hj' h3) (h2 k a (Nat.le_refl _) ha)
  · intro hx; exact List.mem_of_getElem? hx
end Go.Proofs.YtaihigaafjmpiaaDoor
