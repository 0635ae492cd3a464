/- factorsOf: the factors of a word, in order, each once, by a sort. No condition but the bounds. -/
import Derived.Test.YtaihigaafjmpiaaDoorFac
import Derived.Test.YtaihigaafjmpiaaDoorShelf
import Derived.Lib.RowBridge
namespace Go.Proofs.YtaihigaafjmpiaaDoor
open Go.RowKit Go.Sort
set_option linter.unusedVariables false

theorem heap_putRow (enc : List UInt8 → Value) (w : World) (g off : Nat) (d : Array (List UInt8)) (k : Nat) : (putRow enc w g off d).heap[k]? = if g = k then (w.heap[k]?).map (onCells (putCells enc off d)) else w.heap[k]? := by
  unfold putRow mapBlock
  simp only [Array.getElem?_modify]
theorem put_take (d : Array (List UInt8)) (cur : Array Value) (h : d.size ≤ cur.size) : (putCells encStr 0 d cur).toList.take d.size = d.toList.map encStr := by
  apply List.ext_getElem?
  intro j
  rw [List.getElem?_take, List.getElem?_map]
  by_cases hj : j < d.size
  · rw [if_pos hj]
    have hc : j < cur.size := by omega
    simp only [putCells, Array.getElem?_toList, Array.getElem?_mapIdx]
    rw [Array.getElem?_eq_getElem hc, Array.getElem?_eq_getElem hj]
    simp only [Option.map_some]
    rw [if_pos ⟨Nat.zero_le _, by omega⟩, Nat.sub_zero, getElem!_pos d j hj]
  · rw [if_neg hj, Array.getElem?_toList, Array.getElem?_eq_none (by omega)]; rfl
theorem Own.row {w : World} {B g n c : Nat} {T : TypeId} {xs : List Value} (h : Own w B T (.slice (some ⟨g, 0, none⟩) n c) xs) (hx : xs.length = n) (d : Array (List UInt8)) (hd : d.size = n) (q : Nat) (os : Array Obj) :
    Own (grow (putRow encStr (Sort.ahead w q) g 0 d) os) B T (.slice (some ⟨g, 0, none⟩) n c) (d.toList.map encStr) ∧ Below B w (grow (putRow encStr (Sort.ahead w q) g 0 d) os) := by
  have hlt := World.ownsRow.lt h g rfl
  have hsz : (putRow encStr (Sort.ahead w q) g 0 d).heap.size = w.heap.size := by
    unfold putRow mapBlock; simp [Sort.ahead]
  have hblk : ∀ k, k < w.heap.size → (grow (putRow encStr (Sort.ahead w q) g 0 d) os).heap[k]? = (putRow encStr (Sort.ahead w q) g 0 d).heap[k]? := fun k hk => heap_grow_old _ os (by rw [hsz]; exact hk)
  subst hx
  refine ⟨?_, ⟨rfl, rfl, rfl, by simp only [grow, Array.size_append]; rw [hsz]; omega, fun k hk => ?_⟩⟩
  · rcases h.2 with ⟨h0, _⟩ | ⟨g', cap, cur, hv, hB, hg, hn, hm, hcs, ht⟩
    · cases h0
    · injection hv with e1 e2 e3
      injection e1 with e1
      injection e1 with e1
      subst e1 e3
      have hdl : (d.toList.map encStr).length = xs.length := by rw [List.length_map, Array.length_toList, hd]
      refine ⟨by rw [Nat.mul_one], .inr ⟨g, c, putCells encStr 0 d cur, by rw [hdl], hB, ?_, by rw [hdl]; exact hn, hm, ?_, ?_⟩⟩
      · rw [hblk g hlt.2, heap_putRow, if_pos rfl]
        have hg' : (Sort.ahead w q).heap[g]? = some (.cells cur T (0, 0)) := hg
        rw [hg']; rfl
      · simp only [putCells, Array.size_mapIdx]; exact hcs
      · rw [hdl, Nat.mul_one, ← hd]
        exact put_take d cur (by rw [hd, hcs]; omega)
  · rw [hblk k (by omega), heap_putRow, if_neg (by omega)]; rfl
theorem encStr_L (s : ByteArray) : encStr (L s) = .string s := congrArg Value.string (L_strOf s)
theorem own_holds {w : World} {B g c : Nat} {T : TypeId} {zs : List (List UInt8)} (h : Own w B T (.slice (some ⟨g, 0, none⟩) zs.length c) (zs.map encStr)) : Holds encStr w g 0 zs.toArray := fun j hj => by
  have hj' : j < zs.length := by simpa using hj
  have h3 := h
  unfold Own at h3
  rw [List.length_map] at h3
  refine ⟨?_, ?_⟩
  · rw [Nat.zero_add, World.ownsRow.cellAt h3 j (by omega), List.getElem?_map, List.getElem?_eq_getElem hj', getElem!_pos _ j hj]; simp
  · exact World.ownsRow.frozenAt h3 _
theorem sort_own (l : List ByteArray) (g c B : Nat) (w : World) (hl : l.length ≤ 1000000) (h : Own w B 9 (.slice (some ⟨g, 0, none⟩) l.length c) (l.map Value.string)) :
    Calls Tryd.prog 36 #[.slice (some ⟨g, 0, none⟩) l.length c] w fun e w' => e = .returned (.tuple #[]) ∧ Own w' B 9 (.slice (some ⟨g, 0, none⟩) l.length c) ((srt l).map encStr) ∧ Below B w w' := by
  have hm : l.map Value.string = (l.map L).map encStr := by
    rw [List.map_map]; exact List.map_congr_left fun s _ => (encStr_L s).symm
  have h1 : Own w B 9 (.slice (some ⟨g, 0, none⟩) (l.map L).length c) ((l.map L).map encStr) := by rw [List.length_map, ← hm]; exact h
  have hc := Tryd.slices_Sort_string g 0 c (l.map L) w (own_holds h1) (World.ownsRow.lt h g rfl).2 (by rw [List.length_map]; omega)
  rw [List.length_map] at hc
  refine hc.mono ?_
  rintro e w' ⟨rfl, q, os, rfl⟩
  have hr := h.row (by rw [List.length_map]) (srt l).toArray (by rw [List.size_toArray, srt_len]) q os
  exact ⟨rfl, hr.1, hr.2⟩
theorem compact_own (l : List ByteArray) (g c B : Nat) (w : World) (hl : l.length ≤ 1000000) (h : Own w B 9 (.slice (some ⟨g, 0, none⟩) l.length c) ((srt l).map encStr)) :
    Calls Tryd.prog 43 #[.slice (some ⟨g, 0, none⟩) l.length c] w fun e w' => e = .returned (.slice (some ⟨g, 0, none⟩) (insL l).length c) ∧ StrAt w' g c (insL l) ∧ Below B w w' := by
  have h1 : Own w B 9 (.slice (some ⟨g, 0, none⟩) (srt l).length c) ((srt l).map encStr) := by rw [srt_len]; exact h
  obtain ⟨A', c', hv, hc1, hc2, _⟩ := h1.shape
  injection hv with e1 e2 e3
  subst e3
  rw [List.length_map] at hc1
  have hc := Tryd.slices_Compact_string g 0 c (srt l) w (own_holds h1) (by rw [srt_len]; omega) hc1
  rw [srt_len] at hc
  refine hc.mono ?_
  rintro e w' ⟨rfl, q, rfl⟩
  have hcl := Lib.compact_length_le (srt l)
  rw [srt_len] at hcl
  have hr := h.row (by rw [List.length_map, srt_len]) (Lib.compact (srt l) ++ List.replicate (l.length - (Lib.compact (srt l)).length) []).toArray (by simp; omega) q #[]
  rw [grow_empty] at hr
  have hol : (Lib.compact (srt l)).length = (insL l).length := by rw [← ord_ins, ordL, List.length_map]
  have hlt := (World.ownsRow.lt hr.1 g rfl).2
  refine ⟨by rw [hol], ⟨by rw [← hol]; rw [srt_len] at hc1; omega, hc2, hlt, fun j s hs => ?_⟩, hr.2⟩
  have hj : j < (Lib.compact (srt l)).length := by rw [hol]; exact (List.getElem?_eq_some_iff.1 hs).1
  have h3 := hr.1
  unfold Own at h3
  rw [List.length_map] at h3
  have h4 : (Lib.compact (srt l) ++ List.replicate (l.length - (Lib.compact (srt l)).length) []).toArray.toList.length = l.length := by simp; omega
  rw [h4] at h3
  rw [World.ownsRow.cellAt h3 j (by omega), List.getElem?_map]
  rw [← ord_ins, ordL, List.getElem?_map] at hs
  first
    | (dsimp only; rw [List.getElem?_append_left hj])
    | (simp only [List.toList_toArray]; rw [List.getElem?_append_left hj])
  cases hq : (Lib.compact (srt l))[j]? with
  | none => rw [hq] at hs; simp at hs
  | some z =>
    rw [hq] at hs
    have hz : strOf z = s := by simpa using hs
    rw [← hz]; rfl
end Go.Proofs.YtaihigaafjmpiaaDoor
