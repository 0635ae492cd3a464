/- factorsOf: the factors of a word, in order, each once, by a sort. No condition but the bounds. -/
import Derived.Test.YtbegecoocgkbiaaGreatDoorM17
import Derived.Test.YtbegecoocgkbiaaGreatDoorShelf
import Derived.Lib.RowBridge
namespace Go.Proofs.YtbegecoocgkbiaaGreatDoor
open Go.RowKit Go.Sort
set_option linter.unusedVariables false

theorem heap_putRow (enc : List UInt8 → Value) (w : World) (g off : Nat) (d : Array (List UInt8)) (k : Nat) : (putRow enc w g off d).heap[k]? = if g = k then (w.heap[k]?).map (onCells (putCells enc off d)) else w.heap[k]? := by
  unfold putRow mapBlock
  simp only [Array.getElem?_modify]
theorem put_take (d : Array (List UInt8)) (cur : Array Value) (h : d.size ≤ cur.size) : (putCells encStr 0 d cur).toList.take d.size = d.toList.map encStr := by
  apply List.ext_getElem?
  intro j
  rw [List.getElem?_take, List.getElem?_map]
  by_cases hj : j < d.size
  · rw [if_pos hj]
    have hc : j < cur.size := by omega
    simp only [putCells, Array.getElem?_toList, Array.getElem?_mapIdx]
    rw [Array.getElem?_eq_getElem hc, Array.getElem?_eq_getElem hj]
    simp only [Option.map_some]
    rw [if_pos ⟨Nat.zero_le _, by omega⟩, Nat.sub_zero, getElem!_pos d j hj]
  · rw [if_neg hj, Array.getElem?_toList, Array.getElem?_eq_none (by omega)]; rfl
theorem Own.row {w : World} {B g n c : Nat} {T : TypeId} {xs : List Value} (h : Own w B T (.slice (some ⟨g, 0, none⟩) n c) xs) (hx : xs.length = n) (d : Array (List UInt8)) (hd : d.size = n) (q : Nat) (os : Array Obj) :
    Own (grow (putRow encStr (Sort.ahead w q) g 0 d) os) B T (.slice (some ⟨g, 0, none⟩) n c) (d.toList.map encStr) ∧ Below B w (grow (putRow encStr (Sort.ahead w q) g 0 d) os) := by
  have hlt := World.ownsRow.lt h g rfl
  have hsz : (putRow encStr (Sort.ahead w q) g 0 d).heap.size = w.heap.size := by
    unfold putRow mapBlock; simp [Sort.ahead]
  have hblk : ∀ k, k < w.heap.size → (grow (putRow encStr (Sort.ahead w q) g 0 d) os).heap[k]? = (putRow encStr (Sort.ahead w q) g 0 d).heap[k]? := fun k hk => heap_grow_old _ os (by rw [hsz]; exact hk)
  subst hx
  refine ⟨?_, ⟨rfl, rfl, rfl, by simp only [grow, Array.size_append]; rw [hsz]; omega, fun k hk => ?_⟩⟩
  · rcases h.2 with ⟨h0, _⟩ | ⟨g', cap, cur, hv, hB, hg, hn, hm, hcs, ht⟩
    · cases h0
    · injection hv with e1 e2 e3
      injection e1 with e1
      injection e1 with e1
      subst e1 e3
      have hdl : (d.toList.map encStr).length = xs.length := by rw [List.length_map, Array.length_toList, hd]
      refine ⟨by rw [Nat.mul_one], .inr ⟨g, c, putCells encStr 0 d cur, by rw [hdl], hB, ?_, by rw [hdl]; exact hn, hm, ?_, ?_⟩⟩
      · rw [hblk g hlt.2, heap_putRow, if_pos rfl]
        have hg' : (Sort.ahead w q).heap[g]? = some (.cells cur T (0, 0)) := hg
        rw [hg']; rfl
      · simp only [putCells, Array.size_mapIdx]; exact hcs
      · rw [hdl, Nat.mul_one, ← hd]
        exact put_take d cur (by rw [hd, hcs]; omega)
  · rw [hblk k (by omega), heap_putRow, if_neg (by omega)]; rfl
theorem encStr_L (s : ByteArray) : encStr (L s) = .string s := congrArg Value.string (L_strOf s)
theorem own_holds {w : World} {B g c : Nat} {T : TypeId} {zs : List (List UInt8)} (h : Own w B T (.slice (some ⟨g, 0, none⟩) zs.length c) (zs.map encStr)) : Holds encStr w g 0 zs.toArray := fun j hj => by
  have hj' : j < zs.length := by simpa using hj
  have h3 := h
  unfold Own at h3
  rw [List.length_map] at h3
  refine ⟨?_, ?_⟩
  · rw [Nat.zero_add, World.ownsRow.cellAt h3 j (by omega), List.getElem?_map, List.getElem?_eq_getElem hj', getElem!_pos _ j hj]; simp
  · exact World.ownsRow.frozenAt h3 _
theorem sort_own (l : List ByteArray) (g c B : Nat) (w : World) (hl : l.length ≤ 1000000) (h : Own w B 9 (.slice (some ⟨g, 0, none⟩) l.length c) (l.map Value.string)) :
    Calls Tryz.prog 114 #[.slice (some ⟨g, 0, none⟩) l.length c] w fun e w' => e = .returned (.tuple #[]) ∧ Own w' B 9 (.slice (some ⟨g, 0, none⟩) l.length c) ((srt l).map encStr) ∧ Below B w w' := by
  have hm : l.map Value.string = (l.map L).map encStr := by
    rw [List.map_map]; exact List.map_congr_left fun s _ => (encStr_L s).symm
  have h1 : Own w B 9 (.slice (some ⟨g, 0, none⟩) (l.map L).length c) ((l.map L).map encStr) := by rw [List.length_map, ← hm]; exact h
  have hc := Tryz.slices_Sort_string g 0 c (l.map L) w (own_holds h1) (World.ownsRow.lt h g rfl).2 (by rw [List.length_map]; omega)
  rw [List.length_map] at hc
  refine hc.mono ?_
  rintro e w' ⟨rfl, q, os, rfl⟩
  have hr := h.row (by rw [List.length_map]) (srt l).toArray (by rw [List.size_toArray, srt_len]) q os
  exact ⟨rfl, hr.1, hr.2⟩
theorem compact_own (l : List ByteArray) (g c B : Nat) (w : World) (hl : l.length ≤ 1000000) (h : Own w B 9 (.slice (some ⟨g, 0, none⟩) l.length c) ((srt l).map encStr)) :
    Calls Tryz.prog 115 #[.slice (some ⟨g, 0, none⟩) l.length c] w fun e w' => e = .returned (.slice (some ⟨g, 0, none⟩) (insL l).length c) ∧ StrAt w' g c (insL l) ∧ Below B w w' := by
  have h1 : Own w B 9 (.slice (some ⟨g, 0, none⟩) (srt l).length c) ((srt l).map encStr) := by rw [srt_len]; exact h
  obtain ⟨A', c', hv, hc1, hc2, _⟩ := h1.shape
  injection hv with e1 e2 e3
  subst e3
  rw [List.length_map] at hc1
  have hc := Tryz.slices_Compact_string g 0 c (srt l) w (own_holds h1) (by rw [srt_len]; omega) hc1
  rw [srt_len] at hc
  refine hc.mono ?_
  rintro e w' ⟨rfl, q, rfl⟩
  have hcl := Lib.compact_length_le (srt l)
  rw [srt_len] at hcl
  have hr := h.row (by rw [List.length_map, srt_len]) (Lib.compact (srt l) ++ List.replicate (l.length - (Lib.compact (srt l)).length) []).toArray (by simp; omega) q #[]
  rw [grow_empty] at hr
  have hol : (Lib.compact (srt l)).length = (insL l).length := by rw [← ord_ins, ordL, List.length_map]
  have hlt := (World.ownsRow.lt hr.1 g rfl).2
  refine ⟨by rw [hol], ⟨by rw [← hol]; rw [srt_len] at hc1; omega, hc2, hlt, fun j s hs => ?_⟩, hr.2⟩
  have hj : j < (Lib.compact (srt l)).length := by rw [hol]; exact (List.getElem?_eq_some_iff.1 hs).1
  have h3 := hr.1
  unfold Own at h3
  rw [List.length_map] at h3
  have h4 : (Lib.compact (srt l) ++ List.replicate (l.length - (Lib.compact (srt l)).length) []).toArray.toList.length = l.length := by simp; omega
  rw [h4] at h3
  rw [World.ownsRow.cellAt h3 j (by omega), List.getElem?_map]
  rw [← ord_ins, ordL, List.getElem?_map] at hs
  first
    | (dsimp only; rw [List.getElem?_append_left hj])
    | (simp only [List.toList_toArray]; rw [List.getElem?_append_left hj])
  cases hq : (Lib.compact (srt l))[j]? with
  | none => rw [hq] at hs; simp at hs
  | some z =>
    rw [hq] at hs
    have hz : strOf z = s := by simpa using hs
    rw [← hz]; rfl
set_option maxRecDepth 4000 in
set_option maxHeartbeats 1000000 in
theorem factorsOf_any (s : ByteArray) (n : Nat) (hs : s.size ≤ 400) (hn : n ≤ 1000) (w : World) :
    Calls Tryz.prog 66 #[.string s, .int .i64 n] w fun e w' => ∃ g c, e = .returned (.slice (some ⟨g, 0, none⟩) (insL (fc s n)).length c) ∧ StrAt w' g c (insL (fc s n)) ∧ Below w.heap.size w w' := by
  obtain ⟨f, hf⟩ : ∃ f, fc s n = f := ⟨_, rfl⟩
  have HF := Lib.hid hf
  rw [hf]; clear hf
  go_enter Tryz.func66, Tryz.ntmps66
  go_wp2_with fail
  go_loopw [5, 6] (fun v i wr => ∃ k g c, k ≤ s.size + 1 - n ∧ i = .int .i64 (k : Nat) ∧ v = .slice (some ⟨g, 0, none⟩) k c ∧ Own wr w.heap.size 9 (.slice (some ⟨g, 0, none⟩) k c) ((fcT s n k).map Value.string) ∧ Below w.heap.size w wr) (fun _ i _ => s.size + 1 - (intOf i).toNat)
  case atStart => exact ⟨0, w.heap.size, 0, by omega, rfl, rfl, Own.empty (Nat.le_refl _), (Below.refl _ _).alloc (Nat.le_refl _) _⟩
  case round =>
    obtain ⟨k, g, c, hk, rfl, rfl, hown, hbel⟩ := hrel
    have HO := Lib.hid hown; clear hown
    by_cases hlt : k + n ≤ s.size
    · have hl3 : ((fcT s n k).map Value.string).length = k := by rw [List.length_map, fcT_len]
      have HL3 := Lib.hid hl3
      have HT := Lib.hid (fcT_succ s n k)
      have hk9 : k < 4294967296 := by omega
      have hsz := hbel.size
      clear hl3
      go_wp2_with (at_builtin; refine wp_append1 rfl (.tmp 16) (.tmp 23) 23 rfl _ 16 Tryz.underlying23 info_string rfl rfl HO.out _ rfl rfl k HL3.out hk9 (by decide) hsz ?_)
      intro A2 c2 w2 hown2 hbel2 hsz2
      have hown3 : Own w2 w.heap.size 9 (.slice A2 (k + 1) c2) ((fcT s n (k + 1)).map Value.string) := by rw [HT.out, List.map_append]; exact hown2
      obtain ⟨g2, hA2, _⟩ := (show Own w2 w.heap.size 9 (.slice A2 (fcT s n (k + 1)).length c2) ((fcT s n (k + 1)).map Value.string) by rw [fcT_len]; exact hown3).strAt (fun h => by have := congrArg List.length h; rw [fcT_len] at this; simp at this)
      subst hA2
      have HO2 := Lib.hid hown3
      clear hown2 hown3
      go_wp2_with fail
      go_roundw
      case rel => exact ⟨k + 1, g2, c2, by omega, by go_num, rfl, HO2.out, hbel.trans hbel2⟩
      case measure => simp [intOf]; omega
    · have hkn : k = s.size + 1 - n := by omega
      have hfin : fcT s n k = f := by rw [hkn]; exact HF.out
      have hfl : f.length = k := by rw [← hfin, fcT_len]
      have ho := HO.out
      rw [hfin, ← hfl] at ho
      have hfb : f.length ≤ 1000000 := by omega
      have hso := sort_own f g c _ wr hfb ho
      rw [hfl] at hso
      have HSO := Lib.hid hso; have HFL := Lib.hid hfl
      have hlt2 : ¬ ((k : Int) + n ≤ s.size) := by omega
      clear hkn hfin hfl ho hso
      go_wp2_with fail
      refine HSO.out.mono ?_
      rintro e w2 ⟨rfl, ho2, b2⟩
      have hco := compact_own f g c _ w2 hfb (by rw [HFL.out]; exact ho2)
      rw [HFL.out] at hco
      have HCO := Lib.hid hco
      clear hco ho2
      go_wp2_with fail
      refine HCO.out.mono ?_
      rintro e w3 ⟨rfl, hst, b3⟩
      have HST := Lib.hid hst
      clear hst
      go_wp2_with fail
      go_ret
      exact ⟨g, c, rfl, HST.out, (hbel.trans b2).trans b3⟩
end Go.Proofs.YtbegecoocgkbiaaGreatDoor
