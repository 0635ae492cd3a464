/- Rows of bytes of the call's own, the one that a conversion lays among them: what an append makes of them. No condition. -/
import Derived.Test.YtoclnikpieebcaaDoorByt
import Derived.Test.YtoclnikpieebcaaDoorApp4
import Derived.Lib.ConvBytes
import Derived.Lib.AtoiErrMem
namespace Go.Proofs.YtoclnikpieebcaaDoor
open Go.RowKit
set_option linter.unusedVariables false

/-- Block g holds the bytes l, in a row of c cells of the call's own; none of the c is frozen. -/
def BR (w : World) (B : Nat) (E : TypeId) (g c : Nat) (l : List UInt8) : Prop :=
  B ≤ g ∧ l.length ≤ c ∧ c ≤ maxLen ∧ ∃ (cur : Array Value) (fr : Nat × Nat), w.heap[g]? = some (.cells cur E fr) ∧ cur.size = c ∧ cur.toList.take l.length = byV l ∧ ∀ j, j < c → ¬ (fr.1 ≤ j ∧ j < fr.2)
section
variable {P : Program} {w w' : World} {B B' g c : Nat} {E : TypeId} {l : List UInt8}
theorem BR.lt (h : BR w B E g c l) : g < w.heap.size := by
  obtain ⟨_, _, _, cur, fr, hg, _⟩ := h
  exact (Array.getElem?_eq_some_iff.1 hg).1
theorem BR.below (h : BR w B E g c l) (hb : Below w.heap.size w w') : BR w' B E g c l := by
  have hl := h.lt
  obtain ⟨h1, h2, h3, cur, fr, hg, h4⟩ := h
  exact ⟨h1, h2, h3, cur, fr, (hb.block g hl).trans hg, h4⟩
theorem BR.dr (h : BR w B E g c l) (hd : Dr w w') : BR w' B E g c l := h.below hd.below
theorem BR.lower (h : BR w B E g c l) (hB : B' ≤ B) : BR w B' E g c l := ⟨Nat.le_trans hB h.1, h.2⟩
theorem BR.cell (h : BR w B E g c l) {j : Nat} {b : UInt8} (hj : l[j]? = some b) : w.cell? ⟨g, j, none⟩ = some (.int .u8 (b.toNat : Int)) := by
  obtain ⟨_, _, _, cur, fr, hg, hs, ht, _⟩ := h
  have hlt := (List.getElem?_eq_some_iff.1 hj).1
  have h1 : (byV l)[j]? = some (.int .u8 (b.toNat : Int)) := by rw [byV, List.getElem?_map, hj]; rfl
  rw [← ht, List.getElem?_take_of_lt hlt] at h1
  simp only [World.cell?, hg]
  simpa using h1
theorem BR.reads (h : BR w B E g c l) : Rds w (g + 1) (some ⟨g, 0, none⟩) (byV l) := fun k u hu => by
  refine ⟨_, rfl, Nat.lt_succ_self _, ?_⟩
  have hk : k < l.length := by have := (List.getElem?_eq_some_iff.1 hu).1; rwa [byV_length] at this
  obtain ⟨b, hb⟩ := some_of_lt (l := l) (k := k) hk
  rw [byV, List.getElem?_map, hb] at hu
  have hu2 : u = .int .u8 (b.toNat : Int) := by simpa using hu.symm
  rw [hu2]
  have hc := h.cell hb
  rcases Nat.eq_zero_or_pos k with h0 | h0
  · subst h0; simpa [Addr.add] using hc
  · simpa [Addr.add, show k ≠ 0 by omega] using hc
theorem BR.take (h : BR w B E g c l) (n : Nat) : BR w B E g c (l.take n) := by
  obtain ⟨h1, h2, h3, cur, fr, hg, hs, ht, hf⟩ := h
  refine ⟨h1, by rw [List.length_take]; omega, h3, cur, fr, hg, hs, ?_, hf⟩
  rw [List.length_take, byV, List.map_take, ← byV, ← ht, List.take_take, Nat.min_comm]
/-- What a conversion lays. -/
theorem BR.conv (w : World) (E : TypeId) (s : ByteArray) (hs : s.size ≤ maxLen) : BR (Lib.bytesWorld w E s) w.heap.size E w.heap.size (grownCap w s.size 0 E) (L s) := by
  have hge := grownCap_ge w s.size 0 E
  have hle := grownCap_le_maxLen w s.size 0 E hs
  have hsz : (Lib.bytesCells w E s).size = grownCap w s.size 0 E := by
    rw [Lib.bytesCells, Array.size_append, Array.size_map, Array.size_replicate]
    have : s.data.size = s.size := rfl
    omega
  refine ⟨Nat.le_refl _, by rw [L_len]; exact hge, hle, _, _, Lib.bytesWorld_at_new w E s, hsz, ?_, fun j hj => by rw [hsz]; omega⟩
  rw [Lib.bytesCells, Array.toList_append, Array.toList_map, L_len, List.take_left' (by rw [List.length_map]; rfl)]
  rfl
theorem BR.ofOwn {v : Value} {n : Nat} (h : Own w B E (.slice (some ⟨g, 0, none⟩) n c) (byV l)) (hn : l.length = n) : BR w B E g c l := by
  obtain ⟨h1, h2 | ⟨g', cap, cur, hv, hb, hg, hn2, hm, hs, ht⟩⟩ := h
  · cases h2.1
  · injection hv with e1 e2 e3
    injection e1 with e1
    injection e1 with e1
    subst e1 e3
    rw [byV_length] at hn2 ht
    exact ⟨hb, hn2, hm, cur, (0, 0), hg, by omega, by rw [Nat.mul_one] at ht; exact ht, fun j _ => by omega⟩
theorem store_br (P : Program) (g o : Nat) (t : TypeId) (fr : Nat × Nat) : ∀ (vs : List Value) (i : Nat) (cur : Array Value) (w : World), w.heap[g]? = some (.cells cur t fr) → (∀ j, j < cur.size → ¬ (fr.1 ≤ j ∧ j < fr.2)) → o + i + vs.length ≤ cur.size → (∀ v ∈ vs, v.oneCell' = true) →
    ∃ w', (storeCells ⟨g, o, none⟩ vs i).run P w = .ok () w' ∧ w.grownBy w' (some g) ∧ w'.heap[g]? = some (.cells (cur.toList.take (o + i) ++ vs ++ cur.toList.drop (o + i + vs.length)).toArray t fr)
  | [], i, cur, w, hg, _, _, _ => ⟨w, rfl, World.grownBy.refl _ _, by
      simp only [List.append_nil, List.length_nil, Nat.add_zero, List.take_append_drop, Array.toArray_toList]; exact hg⟩
  | v :: rest, i, cur, w, hg, hf, hl, h1 => by
    rw [List.length_cons] at hl
    have hi : o + i < cur.size := by omega
    have hadd : (⟨g, o, none⟩ : Addr).add i = ⟨g, o + i, none⟩ := by unfold Addr.add; split <;> simp_all
    have hcell : w.cell? ⟨g, o + i, none⟩ = some cur[o + i] := by simp [World.cell?, hg, hi]
    have hfro : w.frozen? ⟨g, o + i, none⟩ = false := by
      have := hf (o + i) hi
      simp [World.frozen?, hg]
      omega
    have hst : (store ((⟨g, o, none⟩ : Addr).add i) v).run P w = .ok () (w.setRow g (cur.setIfInBounds (o + i) v)) := by
      rw [hadd, run_store P w _ v _ (h1 v (by simp)), hcell]
      simp [hfro, setCell_eq_setRow w g (o + i) cur t fr v hg]
    obtain ⟨w2, hr, hgr, hg2⟩ := store_br P g o t fr rest (i + 1) (cur.setIfInBounds (o + i) v) (w.setRow g (cur.setIfInBounds (o + i) v)) (setRow_heap w g cur _ t fr hg) (by simpa using hf) (by simp; omega) (fun x hx => h1 x (List.mem_cons_of_mem _ hx))
    have hgr1 : w.grownBy (w.setRow g (cur.setIfInBounds (o + i) v)) (some g) := ⟨rfl, rfl, rfl, by simp, fun k _ hk => setRow_other w g k _ (fun e => hk (by simp [e]))⟩
    refine ⟨w2, ?_, grownBy_trans hgr1 hgr, ?_⟩
    · simp only [storeCells, Sem.run_bind, hst, Result.andThen_ok, hr]
    · rw [hg2]
      congr 3
      have e := list_seg_step cur.toList (o + i) v rest (by simp; omega)
      simpa [Array.toList_setIfInBounds, Nat.add_assoc] using e
theorem gr_of_below {w w' : World} (h : Below w.heap.size w w') (row : Option Nat) : w.grownBy w' row := ⟨h.os, h.tape, h.output, h.size, fun k hk _ => h.block k hk⟩
theorem str_cells (s : ByteArray) : Array.map (fun b : UInt8 => Value.int IntKind.u8 (b.toNat : Int)) (s.data.extract 0 s.size) = (byV (L s)).toArray := by
  have hs : s.data.extract 0 s.size = s.data := by
    have : s.size = s.data.size := rfl
    rw [this, Array.extract_size]
  rw [hs]
  apply Array.ext'
  simp [byV, L]
theorem str_cells2 (s : ByteArray) : List.take s.size (List.map (fun b : UInt8 => Value.int IntKind.u8 (b.toNat : Int)) s.data.toList) = byV (L s) := by
  have e : s.size = (List.map (fun b : UInt8 => Value.int IntKind.u8 (b.toNat : Int)) s.data.toList).length := by simp
  rw [e, List.take_length]
  rfl
theorem str_cells3 (s : ByteArray) : (Array.map (fun b : UInt8 => Value.int IntKind.u8 (b.toNat : Int)) s.data).extract 0 s.size = (byV (L s)).toArray := by
  have e : s.size = (Array.map (fun b : UInt8 => Value.int IntKind.u8 (b.toNat : Int)) s.data).size := by simp
  rw [e, Array.extract_size]
  apply Array.ext'
  simp [byV, L]
theorem byV_one (l : List UInt8) : ∀ v ∈ byV l, v.oneCell' = true := by
  intro v hv
  rw [byV, List.mem_map] at hv
  obtain ⟨b, _, rfl⟩ := hv
  rfl
theorem fit_take {cur : Array Value} {l k : List UInt8} (ht : cur.toList.take l.length = byV l) : (cur.toList.take l.length ++ byV k ++ cur.toList.drop (l.length + k.length)).toArray.toList.take (l ++ k).length = byV (l ++ k) := by
  rw [ht, ← byV_append, List.length_append]
  exact List.take_left' (by rw [byV_length, List.length_append])
/-- 'append(b, s...)'. -/
theorem run_append_brs (t u ty : TypeId) (i : TypeInfo) (ht : P.underlying t = some (.slice E)) (hu : P.underlying u = some .string) (hi : P.info? E = some i) (hz : i.zero = some (.int .u8 0)) (hsize : i.size = 1) (hby : i.bytes = 1)
    (h : BR w B E g c l) (s : ByteArray) (n : Nat) (hn : l.length = n) (hlim : n + s.size ≤ 4294967296) (hB : B ≤ w.heap.size) :
    ∃ g' c' w', (Builtin.append_ #[t, u] ty #[.slice (some ⟨g, 0, none⟩) n c, .string s]).run P w = .ok (.slice (some ⟨g', 0, none⟩) (n + s.size) c') w' ∧ BR w' B E g' c' (l ++ L s) ∧ w.grownBy w' (some g) ∧ (g' = g ∨ g' = w.heap.size) := by
  subst hn
  have hrd := h.reads
  obtain ⟨h1, h2, h3, cur, fr, hg, hs, htk, hf⟩ := h
  have hLs := L_len s
  by_cases hroom : l.length + s.size ≤ c
  · obtain ⟨w1, hst, hgr, hg1⟩ := store_br P g l.length E fr (byV (L s)) 0 cur w hg (by rw [hs]; exact hf) (by rw [byV_length, hLs]; omega) (byV_one _)
    simp only [Nat.add_zero, byV_length] at hg1
    refine ⟨g, c, w1, ?_, ⟨h1, by rw [List.length_append, hLs]; exact hroom, h3, _, fr, hg1, ?_, fit_take htk, hf⟩, hgr, .inl rfl⟩
    · have hst2 : (storeCells ({ block := g, off := l.length } : Addr) (byV (L s))).run P w = .ok () w1 := hst
      simp [Builtin.append_, run_underlying ht, run_underlying hu, sizeOf, typeInfo, hi, hsize, Builtin.lenOf, hroom, Builtin.firstCells, Addr.add_lit]
      rw [str_cells2, hst2]
      rfl
    · simp [hs, byV_length, hLs]
      rw [← hs] at hroom ⊢
      have := Array.length_toList (xs := cur)
      omega
  · have h63 : ¬ (9223372036854775807 < ((l.length : Int) + (s.size : Int))) := by omega
    have hb2 : Builtin.nextslicecap (l.length + s.size) c * 1 ≤ 281474976710656 := growslice_fits (by omega) (by omega)
    have h48 : ¬ (281474976710656 < Builtin.nextslicecap (l.length + s.size) c) := by omega
    have hfo := run_firstCells_some (P := P) w.drew 1 l.length ⟨g, 0, none⟩ l.length c (byV l) (by rw [byV_length, Nat.mul_one]) (fun j v hj => by
      obtain ⟨ad, e1, _, e2⟩ := hrd j v hj
      injection e1 with e1
      subst e1
      exact e2)
    have hge := grownCap_ge w (l.length + s.size) c E
    have hle := grownCap_le_maxLen w (l.length + s.size) c E (by unfold maxLen; omega)
    have hfo2 : (loadCells ({ block := g, off := 0 } : Addr) l.length).run P w.drew = .ok (byV l).toArray w.drew := by simpa [Builtin.firstCells] using hfo
    refine ⟨w.heap.size, grownCap w (l.length + s.size) c E, w.drew.alloc (.cells ((byV l).toArray ++ (byV (L s)).toArray ++ Builtin.zeroCells #[.int .u8 0] (grownCap w (l.length + s.size) c E - (l.length + s.size))) E), ?_, ?_, ?_, .inr rfl⟩
    · simp [Builtin.append_, run_underlying ht, run_underlying hu, sizeOf, typeInfo, zeroValue, hi, hz, hsize, hby, Builtin.lenOf, hroom, h63, h48, Question.forced, Builtin.firstCells, newRow, grownCap, Value.cells]
      rw [hfo2, str_cells3]
      simp only [Result.andThen_ok]
      congr 3
      apply Array.ext'
      simp
    · refine ⟨hB, by rw [List.length_append, hLs]; exact hge, hle, _, (0, 0), heap_alloc_new w.drew _, ?_, ?_, fun j _ => by omega⟩
      · simp [Builtin.zeroCells, byV_length, hLs]; omega
      · rw [Array.toList_append, Array.toList_append, List.toList_toArray, List.toList_toArray, ← byV_append]
        exact List.take_left' (by rw [byV_length])
    · exact gr_of_below (((Below.refl w.heap.size w).drew).alloc (by simp) _) _
end
section
variable {P : Program} {w : World} {B g c : Nat} {E : TypeId} {l : List UInt8}
theorem step_append_brs {ops : Array Oper} {o : Oper} {a : Act} {K : Act → World → Prop} {Q : Exit → Act → World → Prop} {R : Prop} (hg : o.guard = none) (s x : Operand) (t u : TypeId)
    (ho : o.op = .call { callee := .builtin .append, args := #[s, x], argTypes := #[t, u] })
    (ht : P.underlying t = some (.slice E)) (hu : P.underlying u = some .string) (hinfo : (P.info? E).map (fun i => (i.zero, i.size, i.bytes)) = some (some (.int .u8 0), 1, 1))
    (n : Nat) (hs : a.eval s = .slice (some ⟨g, 0, none⟩) n c) (h : BR w B E g c l) (y : ByteArray) (hx : a.eval x = .string y)
    (hn : l.length = n) (hlim : n + y.size ≤ 4294967296) (hB : B ≤ w.heap.size)
    (hK : ∀ g' c' w', BR w' B E g' c' (l ++ L y) → Below B w w' → K (a.put o.dst (.slice (some ⟨g', 0, none⟩) (n + y.size) c')) w') :
    if Region.wanted o (yielded ops a.tmps) = true then Oper.wp P o a w K Q else R := by
  obtain ⟨i, hi, hz, hsize, hby⟩ := info_parts hinfo
  have hw : Region.wanted o (yielded ops a.tmps) = true := by simp [Region.wanted, hg]
  rw [if_pos hw]
  obtain ⟨g', c', w', hr, h2, h3, h4⟩ := run_append_brs (P := P) t u o.type i ht hu hi hz hsize hby h y n hn hlim hB
  unfold Oper.wp execOp
  simp only [ho, resolve, invoke, builtin, Sem.run_bind, Sem.run_pure, Result.andThen_ok, List.map_toArray, List.map_cons, List.map_nil, hs, hx, hr]
  exact hK g' c' w' h2 ((Below.refl B w).grown h3 hB (fun k hk => by injection hk with hk; have := h.1; omega))
end
end Go.Proofs.YtoclnikpieebcaaDoor
