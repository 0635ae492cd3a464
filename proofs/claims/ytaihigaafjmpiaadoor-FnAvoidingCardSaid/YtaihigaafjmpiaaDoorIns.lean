/- l05Insert, l05Factors: words in order, each once, by insertion. No condition but the bounds. -/
import Derived.Test.YtaihigaafjmpiaaDoorOrd
namespace Go.Proofs.YtaihigaafjmpiaaDoor
open Go.RowKit
set_option linter.unusedVariables false

/-- The slice at block g, of capacity c, reads as the words ss. -/
def StrAt (w : World) (g c : Nat) (ss : List ByteArray) : Prop := ss.length ≤ c ∧ c ≤ maxLen ∧ g < w.heap.size ∧ ∀ j s, ss[j]? = some s → w.cell? ⟨g, j, none⟩ = some (.string s)
theorem StrAt.below {w w' : World} {g c : Nat} {ss : List ByteArray} (h : StrAt w g c ss) (hb : Below w.heap.size w w') : StrAt w' g c ss :=
  ⟨h.1, h.2.1, Nat.lt_of_lt_of_le h.2.2.1 hb.size, fun j s hs => (hb.cell (p := ⟨g, j, none⟩) h.2.2.1).trans (h.2.2.2 j s hs)⟩
theorem StrAt.rds {w : World} {g c : Nat} {ss : List ByteArray} (h : StrAt w g c ss) : Rds w w.heap.size (some ⟨g, 0, none⟩) (ss.map Value.string) := fun k u hu => by
  rw [List.getElem?_map] at hu
  cases hs : ss[k]? with
  | none => rw [hs] at hu; simp at hu
  | some s =>
    rw [hs] at hu
    refine ⟨_, rfl, h.2.2.1, ?_⟩
    have ha : (⟨g, 0, none⟩ : Addr).add k = ⟨g, k, none⟩ := by unfold Addr.add; split <;> simp_all
    rw [ha, h.2.2.2 k s hs]; simpa using hu
theorem Own.strAt {w : World} {B c : Nat} {A : Option Addr} {E : TypeId} {ss : List ByteArray} (h : Own w B E (.slice A ss.length c) (ss.map Value.string)) (h0 : ss ≠ []) : ∃ g, A = some ⟨g, 0, none⟩ ∧ StrAt w g c ss := by
  have hl : 0 < ss.length := by cases ss with | nil => exact absurd rfl h0 | cons a b => simp
  obtain ⟨g, rfl, _, hg, _, _, _⟩ := h.store (k := 0) (by rw [List.length_map]; exact hl)
  obtain ⟨A', c', hv, hc1, hc2, _⟩ := h.shape
  injection hv with e1 e2 e3
  subst e3
  rw [List.length_map] at hc1
  refine ⟨g, rfl, hc1, hc2, hg, fun j s hs => ?_⟩
  have hj := (List.getElem?_eq_some_iff.1 hs).1
  have h2 := World.ownsRow.cellAt (g := g) (n := (ss.map Value.string).length) (by
    have h3 := h
    unfold Own at h3
    rw [List.length_map] at h3 ⊢
    exact h3) j (by rw [List.length_map]; omega)
  rw [h2]; exact map_at Value.string hs
section
variable {P : Program} {w : World} {B : Nat} {E : TypeId} {v : Value} {xs : List Value}
/-- 'out = append(out, l...)'. -/
theorem wp_appendN {ops : Array Oper} {rest : List Oper} {o : Oper} {a : Act} {Q : Exit → Act → World → Prop} (hgd : o.guard = none) (s x : Operand) (t : TypeId)
    (ho : o.op = .call { callee := .builtin .append, args := #[s, x], argTypes := #[t, t] })
    (z : Value) (bytes : Nat) (ht : P.underlying t = some (.slice E)) (hinfo : (P.info? E).map (fun i => (i.zero, i.size, i.bytes)) = some (some z, 1, bytes)) (hzs : z.cells.size = 1)
    (hs : a.eval s = v) (hown : Own w B E v xs) (ys : List Value) (hu : ∀ u ∈ ys, u.oneCell' = true) (ad : Addr) (m c : Nat)
    (hx : a.eval x = .slice (some ad) m c) (hm : ys.length = m) (hys : ∀ j u, ys[j]? = some u → w.cell? (ad.add j) = some u) (n : Nat)
    (hl : xs.length = n) (hn : n + m < 4294967296) (hb16 : bytes ≤ 1024) (hB : B ≤ w.heap.size)
    (h : ∀ A c w', Own w' B E (.slice A (n + m) c) (xs ++ ys) → Below B w w' → wpList P ops Q rest (a.put o.dst (.slice A (n + m) c)) w') :
    wpList P ops Q (o :: rest) a w := by
  obtain ⟨i, hi, hz, hsize, hby⟩ := info_parts hinfo
  subst hl hm
  refine wpList_append_own w hgd s x t ho B E i z 1 bytes ht hi hz hsize hby hzs (by decide) v xs.length xs hs hown ad ys.length c ys hx (by omega) hys hu (by unfold maxLen; omega) ?_ hB ?_
  · calc (xs.length + ys.length) * bytes ≤ 4294967296 * 1024 := Nat.mul_le_mul (by omega) hb16
      _ ≤ 140737488355328 := by decide
  · intro v' w1 hown' hgrow _
    have hown2 : Own w1 B E v' (xs ++ ys) := by
      unfold Own; simpa using hown'
    have hbel : Below B w w1 := (Below.refl B w).grown hgrow hB (fun k hk => (World.ownsRow.lt hown k hk).1)
    obtain ⟨A, c', hv, _⟩ := hown2.shape
    have hl : (xs ++ ys).length = xs.length + ys.length := by simp
    rw [hl] at hv
    rw [hv]
    rw [hv] at hown2
    exact h A c' w1 hown2 hbel
end
end Go.Proofs.YtaihigaafjmpiaaDoor
