/- One append, beside other slices of the call's own. No condition. -/
import Derived.Test.YtaihigaafjmpiaaDoorEdit
namespace Go.Proofs.YtaihigaafjmpiaaDoor
open Go.RowKit
set_option linter.unusedVariables false

/-- The two slices lie in different blocks. -/
def Ap (v v2 : Value) : Prop := ∀ g, v.ownBlock = some g → v2.ownBlock ≠ some g
/-- Whatever else is the call's own stays, and stays apart. -/
def Beside (w w' : World) (v v' : Value) : Prop := ∀ B2 E2 v2 ys, Own w B2 E2 v2 ys → Ap v v2 → Own w' B2 E2 v2 ys ∧ Ap v' v2
section
variable {P : Program} {w : World} {B : Nat} {E : TypeId} {v : Value} {xs : List Value}
theorem beside_of {w0 w1 : World} {g n c H : Nat} (hb : Below w.heap.size w w0) (hH : w0.heap.size = H) (hs : w.heap.size ≤ H) (hg : w0.grownBy w1 v.ownBlock) (hat : v.ownBlock = some g ∨ g = H) :
    Beside w w1 v (.slice (some ⟨g, 0, none⟩) n c) := fun B2 E2 v2 ys h2 hap => by
  refine ⟨World.ownsRow.kept (h2.below hb) hg ?_, fun k hk he => ?_⟩
  · cases hv : v2.ownBlock with
    | none => exact .inl rfl
    | some q => right; intro he; exact hap q he.symm hv
  · have hk' : k = g := by simpa [Value.ownBlock] using hk.symm
    subst hk'
    rcases hat with h | h
    · exact hap k h he
    · have := (World.ownsRow.lt h2 k he).2
      omega
theorem wp_append2 {ops : Array Oper} {rest : List Oper} {o : Oper} {a : Act} {Q : Exit → Act → World → Prop} (hgd : o.guard = none) (s x : Operand) (t : TypeId)
    (ho : o.op = .call { callee := .builtin .append, args := #[s, x], argTypes := #[t, t] })
    (z : Value) (bytes : Nat) (ht : P.underlying t = some (.slice E)) (hinfo : (P.info? E).map (fun i => (i.zero, i.size, i.bytes)) = some (some z, 1, bytes)) (hzs : z.cells.size = 1)
    (hs : a.eval s = v) (hown : Own w B E v xs) (u : Value) (hu : u.oneCell' = true)
    (hx : a.eval x = .slice (some ⟨w.heap.size, 0, none⟩) 1 1) (n : Nat)
    (hl : xs.length = n) (hn : n < 4294967296) (hb16 : bytes ≤ 1024) (hB : B ≤ w.heap.size)
    (h : ∀ A c w', Own w' B E (.slice A (n + 1) c) (xs ++ [u]) → Below B w w' → w.heap.size ≤ w'.heap.size → Beside w w' v (.slice A (n + 1) c) → wpList P ops Q rest (a.put o.dst (.slice A (n + 1) c)) w') :
    wpList P ops Q (o :: rest) a (w.alloc (.cells #[u] E)) := by
  obtain ⟨i, hi, hz, hsize, hby⟩ := info_parts hinfo
  subst hl
  refine wpList_append_lies (w.alloc (.cells #[u] E)) hgd s x t ho B E i z 1 bytes ht hi hz hsize hby hzs (by decide) v xs.length xs hs (World.ownsRow.alloc hown _)
    ⟨w.heap.size, 0, none⟩ 1 1 [u] hx rfl ?_ ?_ (by decide) ?_ ?_ ?_ (w.heap.size + 1) (by simp) ?_
  · intro j q hj
    match j, hj with
    | 0, hj => simp at hj; subst hj; simp [Addr.add]
  · intro q hq; simp at hq; subst hq; exact hu
  · unfold maxLen; omega
  · calc (xs.length + 1) * bytes ≤ 4294967296 * 1024 := Nat.mul_le_mul (by omega) hb16
      _ ≤ 140737488355328 := by decide
  · simp; omega
  · intro g cap w1 hown' hgrow hat _
    have hown2 : Own w1 B E (.slice (some ⟨g, 0, none⟩) (xs.length + 1) cap) (xs ++ [u]) := by
      unfold Own; simpa using hown'
    have hbel : Below B w w1 := by
      refine ((Below.refl B w).alloc hB _).grown hgrow (by simp; omega) ?_
      intro k hk
      exact (World.ownsRow.lt hown k hk).1
    exact h _ cap w1 hown2 hbel hbel.size (beside_of ((Below.refl _ w).alloc (Nat.le_refl _) _) (by simp) (Nat.le_succ _) hgrow hat)
theorem step_append2 {ops : Array Oper} {o : Oper} {a : Act} {K : Act → World → Prop} {Q : Exit → Act → World → Prop} {R : Prop} {u : Value} (hg : o.guard = none) (s x : Operand) (t : TypeId)
    (ho : o.op = .call { callee := .builtin .append, args := #[s, x], argTypes := #[t, t] })
    (z : Value) (bytes : Nat) (ht : P.underlying t = some (.slice E)) (hinfo : (P.info? E).map (fun i => (i.zero, i.size, i.bytes)) = some (some z, 1, bytes)) (hzs : z.cells.size = 1)
    (hs : a.eval s = v) (hown : Own w B E v xs) (hu : u.oneCell' = true)
    (hx : a.eval x = .slice (some ⟨w.heap.size, 0, none⟩) 1 1) (n : Nat)
    (hl : xs.length = n) (hn : n < 4294967296) (hb16 : bytes ≤ 1024) (hB : B ≤ w.heap.size)
    (h : ∀ A c w', Own w' B E (.slice A (n + 1) c) (xs ++ [u]) → Below B w w' → w.heap.size ≤ w'.heap.size → Beside w w' v (.slice A (n + 1) c) → K (a.put o.dst (.slice A (n + 1) c)) w') :
    if Region.wanted o (yielded ops a.tmps) = true then Oper.wp P o a (w.alloc (.cells #[u] E)).drew K Q else R := by
  obtain ⟨i, hi, hz, hsize, hby⟩ := info_parts hinfo
  subst hl
  have hb1 : Below w.heap.size w (w.alloc (.cells #[u] E)).drew := ((Below.refl _ w).alloc (Nat.le_refl _) _).drew
  have hbel0 : Below B w (w.alloc (.cells #[u] E)).drew := ((Below.refl B w).alloc hB _).drew
  have hown0 : Own (w.alloc (.cells #[u] E)).drew B E v xs := hown.below hb1
  have hcell : (w.alloc (.cells #[u] E)).drew.cell? ⟨w.heap.size, 0, none⟩ = some u := by simp
  refine step_append_lies _ hg s x t ho B E i z 1 bytes ht hi hz hsize hby hzs (by decide) v xs.length xs hs hown0 ⟨w.heap.size, 0, none⟩ 1 1 [u] hx rfl ?_ ?_ (by decide) ?_ ?_ (by simp; omega) (w.heap.size + 1) (by simp) ?_
  · intro j q hj
    match j, hj with
    | 0, hj => simp only [List.getElem?_cons_zero, Option.some.injEq] at hj; subst hj; exact hcell
  · intro q hq; simp at hq; subst hq; exact hu
  · unfold maxLen; omega
  · calc (xs.length + 1) * bytes ≤ 4294967296 * 1024 := Nat.mul_le_mul (by omega) hb16
      _ ≤ 140737488355328 := by decide
  · intro g cap w1 hown' hgrow hat _
    have hown2 : Own w1 B E (.slice (some ⟨g, 0, none⟩) (xs.length + 1) cap) (xs ++ [u]) := by
      unfold Own; simpa using hown'
    have hbel : Below B w w1 := hbel0.grown hgrow (by simp; omega) (fun k hk => (World.ownsRow.lt hown k hk).1)
    exact h _ cap w1 hown2 hbel hbel.size (beside_of hb1 (by simp) (Nat.le_succ _) hgrow hat)
end
theorem ap_new {w : World} {B n c : Nat} {E : TypeId} {v : Value} {xs : List Value} (h : Own w B E v xs) : Ap v (.slice (some ⟨w.heap.size, 0, none⟩) n c) := fun g hg he => by
  have h1 := (World.ownsRow.lt h g hg).2
  have : w.heap.size = g := by simpa [Value.ownBlock] using he
  omega
theorem ap_old {w : World} {B g n c : Nat} {E : TypeId} {v : Value} {xs : List Value} (h : Own w B E v xs) (hg : g < B) : Ap (.slice (some ⟨g, 0, none⟩) n c) v := fun k hk he => by
  have h1 := (World.ownsRow.lt h k he).1
  have : g = k := by simpa [Value.ownBlock] using hk
  omega
theorem Ap.symm {v v2 : Value} (h : Ap v v2) : Ap v2 v := fun g h1 h2 => h g h2 h1
end Go.Proofs.YtaihigaafjmpiaaDoor
