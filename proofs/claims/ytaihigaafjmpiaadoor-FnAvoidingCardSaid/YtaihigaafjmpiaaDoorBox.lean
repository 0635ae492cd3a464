/- Boxes: blocks that hold one value of a struct's type. No condition. -/
import Derived.Test.YtaihigaafjmpiaaDoorMem
import Derived.Laws.Rows
namespace Go.Proofs.YtaihigaafjmpiaaDoor
open Go.RowKit
set_option linter.unusedVariables false

/-- Three boxes: what the second and the third one hold. -/
theorem boxes3 (w : World) (o1 : Obj) (c2 c3 : Array Value) (t2 t3 : TypeId) :
    (((w.alloc o1).alloc (.cells c2 t2)).alloc (.cells c3 t3)).heap[w.heap.size + 1]? = some (.cells c2 t2 (0, 0)) ∧ (((w.alloc o1).alloc (.cells c2 t2)).alloc (.cells c3 t3)).heap[w.heap.size + 1 + 1]? = some (.cells c3 t3 (0, 0)) := by
  have s1 : (w.alloc o1).heap.size = w.heap.size + 1 := by simp
  have s2 : ((w.alloc o1).alloc (.cells c2 t2)).heap.size = w.heap.size + 1 + 1 := by simp
  have h2 := heap_alloc_new (w.alloc o1) (.cells c2 t2)
  have h3 := heap_alloc_new ((w.alloc o1).alloc (.cells c2 t2)) (.cells c3 t3)
  rw [s1] at h2
  rw [s2] at h3
  exact ⟨(heap_alloc_old ((w.alloc o1).alloc (.cells c2 t2)) (.cells c3 t3) (by rw [s2]; omega)).trans h2, h3⟩
theorem boxes3_first (w : World) (c1 : Array Value) (t1 : TypeId) (o2 o3 : Obj) : (((w.alloc (.cells c1 t1)).alloc o2).alloc o3).heap[w.heap.size]? = some (.cells c1 t1 (0, 0)) :=
  (heap_alloc_old _ _ (by simp; omega)).trans ((heap_alloc_old _ _ (by simp)).trans (heap_alloc_new _ _))
/-- A box whose cell k is set. -/
theorem box_set {w : World} {g k : Nat} {cs : Array Value} {t : TypeId} (h : w.heap[g]? = some (.cells cs t (0, 0))) (u : Value) : (w.setCell ⟨g, k, none⟩ u).heap[g]? = some (.cells (cs.setIfInBounds k u) t (0, 0)) := by
  rw [setCell_eq_setRow w g k cs t (0, 0) u h]
  exact setRow_heap w g _ _ t (0, 0) h
theorem box_far {w : World} {g g' k : Nat} {o : Option Obj} (h : w.heap[g]? = o) (hne : g ≠ g') (u : Value) : (w.setCell ⟨g', k, none⟩ u).heap[g]? = o := by
  rw [heap_setCell_other w ⟨g', k, none⟩ g u hne]; exact h
theorem Own.far_set {w : World} {B g k : Nat} {E : TypeId} {v : Value} {xs : List Value} (h : Own w B E v xs) (hg : g < B) (u : Value) : Own (w.setCell ⟨g, k, none⟩ u) B E v xs := by
  have hgr : w.grownBy (w.setCell ⟨g, k, none⟩ u) (some g) := ⟨rfl, rfl, rfl, by simp, fun i _ hne => heap_setCell_other w ⟨g, k, none⟩ i u (fun he => hne (by simp [he]))⟩
  refine World.ownsRow.kept h hgr ?_
  cases hv : v.ownBlock with
  | none => exact .inl rfl
  | some q =>
    right; intro he
    have h1 := (World.ownsRow.lt h q hv).1
    have : q = g := by simpa using he
    omega
end Go.Proofs.YtaihigaafjmpiaaDoor
