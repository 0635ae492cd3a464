/- One append onto a slice of the call's own, in full: what else is the call's own stays; what the elder slice reads as stays. No condition. -/
import Derived.Test.YtaihigaafjmpiaaDoorApp2
import Derived.Test.YtaihigaafjmpiaaDoorApp3
namespace Go.Proofs.YtaihigaafjmpiaaDoor
open Go.RowKit
set_option linter.unusedVariables false

section
variable {P : Program} {w : World} {B : Nat} {E : TypeId} {xs : List Value} {go : Nat}
/-- The cells of block go from offset m on may turn, nothing else that lay there. -/
def Kept (w w' : World) (go m : Nat) : Prop := ∀ q k, q < w.heap.size → (q ≠ go ∨ k < m) → w'.cell? ⟨q, k, none⟩ = w.cell? ⟨q, k, none⟩
theorem Kept.str {w w' : World} {go m : Nat} (h : Kept w w' go m) (hs : w.heap.size ≤ w'.heap.size) {q c : Nat} {ss : List ByteArray} (hq : StrAt w q c ss) (hm : q ≠ go ∨ ss.length ≤ m) : StrAt w' q c ss :=
  ⟨hq.1, hq.2.1, Nat.lt_of_lt_of_le hq.2.2.1 hs, fun j s hj => by
    rw [h q j hq.2.2.1 (hm.imp id fun h2 => by have := (List.getElem?_eq_some_iff.1 hj).1; omega)]; exact hq.2.2.2 j s hj⟩
theorem Own.str {w : World} {B g m c : Nat} {E : TypeId} {ss : List ByteArray} (h : Own w B E (.slice (some ⟨g, 0, none⟩) m c) (ss.map Value.string)) (hm : ss.length = m) : StrAt w g c ss := by
  subst hm
  have hl : (ss.map Value.string).length = ss.length := List.length_map ..
  obtain ⟨_, _, hv, h1, h2, _⟩ := h.shape
  injection hv with e1 e2 e3
  subst e3
  refine ⟨by omega, h2, (World.ownsRow.lt h g rfl).2, fun j s hj => ?_⟩
  have h0 : w.ownsRow B E 1 (.slice (some ⟨g, 0, none⟩) ss.length c) ss.length (ss.map Value.string) := by
    have := h; unfold Own at this; rwa [hl] at this
  have hjl := (List.getElem?_eq_some_iff.1 hj).1
  rw [World.ownsRow.cellAt h0 j (by omega)]
  exact map_at Value.string hj
theorem run_append4 (t ty : TypeId) (i : TypeInfo) (z : Value) (bytes : Nat) (ht : P.underlying t = some (.slice E)) (hi : P.info? E = some i) (hz : i.zero = some z)
    (hsize : i.size = 1) (hby : i.bytes = bytes) (hzs : z.cells.size = 1) (m c : Nat) (hown : Own w B E (.slice (some ⟨go, 0, none⟩) m c) xs) (hlen : xs.length = m)
    (ad : Addr) (k c2 : Nat) (news : List Value) (hl : news.length = k) (hnews : ∀ j u, news[j]? = some u → w.cell? (ad.add j) = some u) (h1 : ∀ u ∈ news, u.oneCell' = true)
    (hk : 0 < k) (h63 : m + k ≤ maxLen) (hbytes : (m + k) * bytes ≤ 140737488355328) (hbase : B ≤ w.heap.size) :
    ∃ g cap w', (Builtin.append_ #[t, t] ty #[.slice (some ⟨go, 0, none⟩) m c, .slice (some ad) k c2]).run P w = .ok (.slice (some ⟨g, 0, none⟩) (m + k) cap) w' ∧
      Own w' B E (.slice (some ⟨g, 0, none⟩) (m + k) cap) (xs ++ news) ∧ w.grownBy w' (some go) ∧ (go = g ∨ g = w.heap.size) ∧ Kept w w' go m := by
  have hown0 : w.ownsRow B E 1 (.slice (some ⟨go, 0, none⟩) m c) m xs := by subst hlen; exact hown
  obtain ⟨g, cap, w', hr, h2, h3, h4, h5⟩ := run_append_lies (P := P) w t ty B E i z 1 bytes ht hi hz hsize hby hzs (by decide) _ m xs hown0 ad k c2 news (by rw [Nat.mul_one]; exact hl) hnews h1 hk h63 hbytes hbase _ rfl
  have hgl : go < w.heap.size := (World.ownsRow.lt hown go rfl).2
  have h4' : go = g ∨ g = w.heap.size := h4.imp (fun e => by simpa [Value.ownBlock] using e) id
  have hnl : (xs ++ news).length = m + k := by rw [List.length_append, hlen, hl]
  refine ⟨g, cap, w', hr, by unfold Own; rw [hnl]; exact h2, h3, h4', fun q j hq hd => ?_⟩
  by_cases hqe : q = go
  · subst hqe
    have hj : j < m := by rcases hd with h | h; exact absurd rfl h; exact h
    rcases h4' with e | e
    · subst e
      have e1 := World.ownsRow.cellAt h2 j (by omega)
      have e2 := World.ownsRow.cellAt hown0 j (by omega)
      rw [e1, e2, List.getElem?_append_left (by omega)]
    · by_cases hroom : m + k ≤ c
      · obtain ⟨w2, hr2, _⟩ := run_append_fits (P := P) w B t ty E i 1 ht hi hsize q m c xs hown0 ad k c2 news (by rw [Nat.mul_one]; exact hl) hnews h1 hroom
        rw [hr] at hr2
        injection hr2 with e1 e2
        injection e1 with e1 _ _
        injection e1 with e1
        injection e1 with e1
        omega
      · have hb2 : Builtin.nextslicecap (m + k) c * i.bytes ≤ 281474976710656 := growslice_fits (by omega) (by rw [hby]; exact hbytes)
        have hr2 := run_append_grow (P := P) w t ty E i z ht hi hz ⟨q, 0, none⟩ m c xs (by rw [hsize, Nat.mul_one]; exact hlen) (fun a v hv => World.ownsRow.cells hown0 (g := q) rfl a v hv) ad k c2 news (by rw [hsize, Nat.mul_one]; exact hl) hnews (by omega) (by simp only [maxLen] at h63; omega) hb2
        rw [hr] at hr2
        injection hr2 with e1 e2
        rw [e2]
        exact (((Below.refl w.heap.size w).drew).alloc (by simp) _).cell (p := ⟨q, j, none⟩) hgl
  · exact h3.cell_far ⟨q, j, none⟩ hq (by simpa [Value.ownBlock] using hqe)
/-- All that is known of the world and the slice behind 'out = append(out, news..)'. -/
structure App4 (w w' : World) (B : Nat) (E : TypeId) (go m c : Nat) (g n cap : Nat) (ys : List Value) : Prop where
  own : Own w' B E (.slice (some ⟨g, 0, none⟩) n cap) ys
  bel : Below B w w'
  size : w.heap.size ≤ w'.heap.size
  kept : Kept w w' go m
  where_ : go = g ∨ w.heap.size ≤ g
  far : ∀ q, q < w.heap.size → q ≠ go → q ≠ g
  blk : ∀ q, q < w.heap.size → q ≠ go → w'.heap[q]? = w.heap[q]?
  beside : Beside w w' (.slice (some ⟨go, 0, none⟩) m c) (.slice (some ⟨g, 0, none⟩) n cap)
theorem App4.of {w0 w1 : World} {g n cap m c : Nat} {ys : List Value} (hb : Below w.heap.size w w0) (hB : B ≤ w.heap.size) (hgB : B ≤ go) (hgo : go < w.heap.size)
    (hown : Own w1 B E (.slice (some ⟨g, 0, none⟩) n cap) ys) (hg : w0.grownBy w1 (some go)) (hat : go = g ∨ g = w0.heap.size) (hk : Kept w0 w1 go m) : App4 w w1 B E go m c g n cap ys where
  own := hown
  bel := (hb.mono hB).grown hg (Nat.le_trans hB hb.size) (fun k h => by injection h with h; omega)
  size := Nat.le_trans hb.size hg.size
  kept := fun q j hq hd => (hk q j (Nat.lt_of_lt_of_le hq hb.size) hd).trans (hb.cell (p := ⟨q, j, none⟩) hq)
  where_ := hat.imp id fun h => by have := hb.size; omega
  far := fun q hq hne he => by
    rcases hat with h | h
    · exact hne (by omega)
    · have := hb.size; omega
  blk := fun q hq hne => (hg.block q (Nat.lt_of_lt_of_le hq hb.size) (fun e => hne (by simpa using e))).trans (hb.block q hq)
  beside := beside_of hb rfl hb.size hg (hat.imp (fun h => by rw [h]; rfl) id)
theorem wp_append4 {ops : Array Oper} {rest : List Oper} {o : Oper} {a : Act} {Q : Exit → Act → World → Prop} (hgd : o.guard = none) (s x : Operand) (t : TypeId)
    (ho : o.op = .call { callee := .builtin .append, args := #[s, x], argTypes := #[t, t] })
    (z : Value) (bytes : Nat) (ht : P.underlying t = some (.slice E)) (hinfo : (P.info? E).map (fun i => (i.zero, i.size, i.bytes)) = some (some z, 1, bytes)) (hzs : z.cells.size = 1)
    (m c : Nat) (hs : a.eval s = .slice (some ⟨go, 0, none⟩) m c) (hown : Own w B E (.slice (some ⟨go, 0, none⟩) m c) xs) (u : Value) (hu : u.oneCell' = true)
    (hx : a.eval x = .slice (some ⟨w.heap.size, 0, none⟩) 1 1)
    (hl : xs.length = m) (hn : m < 4294967296) (hb16 : bytes ≤ 1024) (hB : B ≤ w.heap.size)
    (h : ∀ g cap w', App4 w w' B E go m c g (m + 1) cap (xs ++ [u]) → wpList P ops Q rest (a.put o.dst (.slice (some ⟨g, 0, none⟩) (m + 1) cap)) w') :
    wpList P ops Q (o :: rest) a (w.alloc (.cells #[u] E)) := by
  obtain ⟨i, hi, hz, hsize, hby⟩ := info_parts hinfo
  have hgo := World.ownsRow.lt hown go rfl
  refine wpList_plain hgd fun K hK => ?_
  obtain ⟨g, cap, w1, hr, h2, h3, h4, h5⟩ := run_append4 (P := P) (w := w.alloc (.cells #[u] E)) (B := B) t o.type i z bytes ht hi hz hsize hby hzs m c (World.ownsRow.alloc hown _) hl
    ⟨w.heap.size, 0, none⟩ 1 1 [u] rfl (fun j q hj => by match j, hj with | 0, hj => simp at hj; subst hj; simp [Addr.add]) (fun q hq => by simp at hq; subst hq; exact hu) (by decide) (by unfold maxLen; omega)
    (calc (m + 1) * bytes ≤ 4294967296 * 1024 := Nat.mul_le_mul (by omega) hb16
      _ ≤ 140737488355328 := by decide) (by simp; omega)
  unfold Oper.wp execOp
  simp only [ho, resolve, invoke, builtin, Sem.run_bind, Sem.run_pure, Result.andThen_ok, List.map_toArray, List.map_cons, List.map_nil, hs, hx, hr]
  exact hK _ _ (h g cap w1 (App4.of ((Below.refl _ w).alloc (Nat.le_refl _) _) hB hgo.1 hgo.2 h2 h3 h4 h5))
theorem step_append4 {ops : Array Oper} {o : Oper} {a : Act} {K : Act → World → Prop} {Q : Exit → Act → World → Prop} {R : Prop} {u : Value} (hg : o.guard = none) (s x : Operand) (t : TypeId)
    (ho : o.op = .call { callee := .builtin .append, args := #[s, x], argTypes := #[t, t] })
    (z : Value) (bytes : Nat) (ht : P.underlying t = some (.slice E)) (hinfo : (P.info? E).map (fun i => (i.zero, i.size, i.bytes)) = some (some z, 1, bytes)) (hzs : z.cells.size = 1)
    (m c : Nat) (hs : a.eval s = .slice (some ⟨go, 0, none⟩) m c) (hown : Own w B E (.slice (some ⟨go, 0, none⟩) m c) xs) (hu : u.oneCell' = true)
    (hx : a.eval x = .slice (some ⟨w.heap.size, 0, none⟩) 1 1)
    (hl : xs.length = m) (hn : m < 4294967296) (hb16 : bytes ≤ 1024) (hB : B ≤ w.heap.size)
    (h : ∀ g cap w', App4 w w' B E go m c g (m + 1) cap (xs ++ [u]) → K (a.put o.dst (.slice (some ⟨g, 0, none⟩) (m + 1) cap)) w') :
    if Region.wanted o (yielded ops a.tmps) = true then Oper.wp P o a (w.alloc (.cells #[u] E)).drew K Q else R := by
  obtain ⟨i, hi, hz, hsize, hby⟩ := info_parts hinfo
  have hgo := World.ownsRow.lt hown go rfl
  have hb1 : Below w.heap.size w (w.alloc (.cells #[u] E)).drew := ((Below.refl _ w).alloc (Nat.le_refl _) _).drew
  have hcell : (w.alloc (.cells #[u] E)).drew.cell? ⟨w.heap.size, 0, none⟩ = some u := by simp
  have hw : Region.wanted o (yielded ops a.tmps) = true := by simp [Region.wanted, hg]
  rw [if_pos hw]
  obtain ⟨g, cap, w1, hr, h2, h3, h4, h5⟩ := run_append4 (P := P) (w := (w.alloc (.cells #[u] E)).drew) (B := B) t o.type i z bytes ht hi hz hsize hby hzs m c (Own.below hown hb1) hl
    ⟨w.heap.size, 0, none⟩ 1 1 [u] rfl (fun j q hj => by match j, hj with | 0, hj => simp only [List.getElem?_cons_zero, Option.some.injEq] at hj; subst hj; exact hcell) (fun q hq => by simp at hq; subst hq; exact hu) (by decide) (by unfold maxLen; omega)
    (calc (m + 1) * bytes ≤ 4294967296 * 1024 := Nat.mul_le_mul (by omega) hb16
      _ ≤ 140737488355328 := by decide) (by simp; omega)
  unfold Oper.wp execOp
  simp only [ho, resolve, invoke, builtin, Sem.run_bind, Sem.run_pure, Result.andThen_ok, List.map_toArray, List.map_cons, List.map_nil, hs, hx, hr]
  exact h g cap w1 (App4.of hb1 hB hgo.1 hgo.2 h2 h3 h4 h5)
end
end Go.Proofs.YtaihigaafjmpiaaDoor
