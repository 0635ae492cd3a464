/- Array variables in memory: a block that holds a row of integers. No condition. -/
import Derived.Test.YtfjmopiofcbpgaaMem
import Derived.Laws.Rows
namespace Go.Proofs.Ytfjmopiofcbpgaa
open Go.RowKit
set_option linter.unusedVariables false

/-- The cells of an array of integers. -/
def aCells (cs : List Int) : Array Value := (cs.map (Value.int .i64)).toArray
/-- Block g is an array variable of type T that holds cs. -/
def Arr (w : World) (T : TypeId) (g : Nat) (cs : List Int) : Prop := w.heap[g]? = some (.cells (aCells cs) T (0, 0))
section
variable {w w' : World} {T : TypeId} {g B : Nat} {cs : List Int}
theorem Arr.lt (h : Arr w T g cs) : g < w.heap.size := (Array.getElem?_eq_some_iff.1 h).1
theorem Arr.new : Arr (w.alloc (.cells (aCells cs) T)) T w.heap.size cs := heap_alloc_new w _
theorem Arr.cell (h : Arr w T g cs) {k : Nat} {x : Int} (hx : cs[k]? = some x) : w.cell? ⟨g, k, none⟩ = some (.int .i64 x) := by
  rw [cell_of_row w g k _ T (0, 0) h]; simp [aCells, hx]
theorem Arr.frozen (h : Arr w T g cs) (k : Nat) : w.frozen? ⟨g, k, none⟩ = false := by
  have h' : w.heap[g]? = some (.cells (aCells cs) T (0, 0)) := h
  simp [World.frozen?, h']
theorem Arr.below (h : Arr w T g cs) (hb : Below B w w') (hg : g < B) : Arr w' T g cs := (hb.block g hg).trans h
theorem Arr.dr (h : Arr w T g cs) (hd : Dr w w') : Arr w' T g cs := h.below (hd.below (B := g + 1)) (Nat.lt_succ_self g)
theorem Arr.row (h : Arr w T g cs) (ds : List Int) : Arr (w.setRow g (aCells ds)) T g ds := setRow_heap w g _ _ T (0, 0) h
theorem Arr.store (h : Arr w T g cs) (k : Nat) (x : Int) : Arr (w.setCell ⟨g, k, none⟩ (.int .i64 x)) T g (cs.set k x) := by
  rw [setCell_eq_setRow w g k (aCells cs) T (0, 0) (.int .i64 x) h]
  have he : (aCells cs).setIfInBounds k (.int .i64 x) = aCells (cs.set k x) := by
    simp [aCells, List.map_set]
  rw [he]
  exact h.row _
theorem below_setRow (hg : B ≤ g) (ds : Array Value) : Below B w (w.setRow g ds) :=
  ⟨rfl, rfl, rfl, by simp, fun k hk => setRow_other w g k ds (by omega)⟩
end
end Go.Proofs.Ytfjmopiofcbpgaa
