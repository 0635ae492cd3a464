/- Slices in memory: a slice that reads as a list; a slice that the call itself has made; what one append makes of it. No condition. -/
import Derived.Test.YtaihigaafjmpiaaDoorBase
import Derived.Maps.AppendAt
import Derived.OwnWalk
import Derived.Laws.OwnMore
import Derived.Deep.OwnRows
namespace Go.Proofs.YtaihigaafjmpiaaDoor
open Go.RowKit Go.ChangeShapes Go.WideShapes
set_option linter.unusedVariables false

theorem some_of_lt {α : Type} {l : List α} {k : Nat} (h : k < l.length) : ∃ x, l[k]? = some x := ⟨l[k], List.getElem?_eq_getElem h⟩
theorem drop_at_list {α : Type} {l : List α} {k : Nat} {x : α} (h : l[k]? = some x) : l.drop k = x :: l.drop (k + 1) := by
  obtain ⟨hk, rfl⟩ := List.getElem?_eq_some_iff.1 h
  exact List.drop_eq_getElem_cons hk
theorem map_at {α β : Type} {l : List α} {k : Nat} {x : α} (f : α → β) (h : l[k]? = some x) : (l.map f)[k]? = some (f x) := by
  rw [List.getElem?_map, h]; rfl

theorem copied_step {α : Type} (xs : List α) (z : α) {k : Nat} {x : α} (h : xs[k]? = some x) :
    (xs.take k ++ List.replicate (xs.length - k) z).set k x = xs.take (k + 1) ++ List.replicate (xs.length - (k + 1)) z := by
  obtain ⟨hk, hx⟩ := List.getElem?_eq_some_iff.1 h
  have hl : (xs.take k).length = k := by simp; omega
  rw [List.set_append_right _ _ (by omega), hl, Nat.sub_self, List.take_add_one, h]
  obtain ⟨m, hm⟩ : ∃ m, xs.length - k = m + 1 := ⟨xs.length - k - 1, by omega⟩
  rw [hm, List.replicate_succ, List.set_cons_zero, show xs.length - (k + 1) = m by omega]
  simp

/-- The slice that begins at A holds the cells xs, below block B. -/
def Rds (w : World) (B : Nat) (A : Option Addr) (xs : List Value) : Prop :=
  ∀ k u, xs[k]? = some u → ∃ ad, A = some ad ∧ ad.block < B ∧ w.cell? (ad.add k) = some u

theorem block_add (a : Addr) (n : Nat) : (a.add n).block = a.block := by unfold Addr.add; split <;> rfl

section
variable {w w' : World} {B B' : Nat} {A : Option Addr} {xs : List Value}
theorem Rds.nil : Rds w B A [] := fun k u h => by simp at h
theorem Rds.keep (h : Rds w B A xs) (hk : ∀ p : Addr, p.block < B → w'.cell? p = w.cell? p) : Rds w' B A xs := fun k u hu => by
  obtain ⟨ad, e, hb, hc⟩ := h k u hu
  exact ⟨ad, e, hb, (hk _ (by rw [block_add]; exact hb)).trans hc⟩
theorem Rds.more (h : Rds w B A xs) (hB : B ≤ B') : Rds w B' A xs := fun k u hu => by
  obtain ⟨ad, e, hb, hc⟩ := h k u hu
  exact ⟨ad, e, by omega, hc⟩
theorem Rds.below (h : Rds w B A xs) (hb : Below B' w w') (hB : B ≤ B') : Rds w' B A xs := h.keep fun p hp => hb.cell (by omega)
theorem Rds.dr (h : Rds w B A xs) (hb : Dr w w') : Rds w' B A xs := h.keep fun p hp => (hb.below (B := p.block + 1)).cell (by omega)
theorem Rds.at_ (h : Rds w B A xs) {k : Nat} {u : Value} (hu : xs[k]? = some u) : ∃ ad, A = some ad ∧ w.cell? (ad.add k) = some u := by
  obtain ⟨ad, e, _, hc⟩ := h k u hu
  exact ⟨ad, e, hc⟩
end

/-- The slice v is the call's own, in blocks from B on; its elements are the cells xs of type E. -/
def Own (w : World) (B : Nat) (E : TypeId) (v : Value) (xs : List Value) : Prop := w.ownsRow B E 1 v xs.length xs

section
variable {w w' : World} {B B' : Nat} {E : TypeId} {v : Value} {xs : List Value}
theorem Own.nil : Own w B E (.slice none 0 0) [] := World.ownsRow_nil _ _ _ _
theorem Own.shape (h : Own w B E v xs) : ∃ A c, v = .slice A xs.length c ∧ xs.length ≤ c ∧ c ≤ maxLen ∧ Rds w w.heap.size A xs := by
  have hl := h.lt
  rcases h.2 with ⟨rfl, hn⟩ | ⟨g, cap, cur, rfl, hb, hg, hn, hm, hs, ht⟩
  · have hx : xs = [] := List.eq_nil_of_length_eq_zero hn
    subst hx
    exact ⟨none, 0, rfl, Nat.le_refl _, Nat.zero_le _, Rds.nil⟩
  · refine ⟨some ⟨g, 0, none⟩, cap, rfl, hn, hm, fun k u hu => ⟨_, rfl, (hl g rfl).2, ?_⟩⟩
    exact World.ownsRow.cells h (g := g) rfl k u hu
theorem Own.reads {A : Option Addr} {n c : Nat} (h : Own w B E (.slice A n c) xs) : Rds w w.heap.size A xs := by
  obtain ⟨A', c', hv, _, _, hr⟩ := h.shape
  injection hv with h1 h2 h3
  rw [h1]; exact hr
theorem Own.below (h : Own w B E v xs) (hb : Below w.heap.size w w') : Own w' B E v xs :=
  World.ownsRow.kept (row := none) h ⟨hb.os, hb.tape, hb.output, hb.size, fun k hk _ => hb.block k hk⟩ (by cases hv : v.ownBlock <;> simp)
theorem Own.lower (h : Own w B E v xs) (hB : B' ≤ B) : Own w B' E v xs := by
  refine ⟨h.1, ?_⟩
  rcases h.2 with h0 | ⟨g, cap, cur, hv, hb, rest⟩
  · exact .inl h0
  · exact .inr ⟨g, cap, cur, hv, by omega, rest⟩
theorem Own.store {A : Option Addr} {n c k : Nat} (h : Own w B E (.slice A n c) xs) (hk : k < xs.length) :
    ∃ g, A = some ⟨g, 0, none⟩ ∧ B ≤ g ∧ g < w.heap.size ∧ w.cell? ⟨g, k, none⟩ = xs[k]? ∧ w.frozen? ⟨g, k, none⟩ = false ∧
      ∀ u, Own (w.setCell ⟨g, k, none⟩ u) B E (.slice A n c) (xs.set k u) ∧ Below B w (w.setCell ⟨g, k, none⟩ u) ∧ w.grownBy (w.setCell ⟨g, k, none⟩ u) (Value.slice A n c).ownBlock := by
  obtain ⟨A', c', hv, _, _, _⟩ := h.shape
  injection hv with h1 h2 h3
  subst h1 h2 h3
  have hl := h.lt
  have hA : ∃ g, A = some ⟨g, 0, none⟩ := by
    rcases h.2 with ⟨hn, h0⟩ | ⟨g, cap, cur, hv, _⟩
    · omega
    · injection hv with h1; exact ⟨g, h1⟩
  obtain ⟨g, rfl⟩ := hA
  have hg := hl g rfl
  refine ⟨g, rfl, hg.1, hg.2, World.ownsRow.cellAt h k (by omega), World.ownsRow.frozenAt h k, fun u => ⟨?_, (Below.refl _ _).setCell hg.1 u, (World.ownsRow.stored h k u).2⟩⟩
  have := (World.ownsRow.stored h k u).1
  unfold Own
  rwa [List.length_set]
theorem grownBy_trans {a b c : World} {row : Option Nat} (h : a.grownBy b row) (k : b.grownBy c row) : a.grownBy c row :=
  ⟨k.os.trans h.os, k.tape.trans h.tape, k.output.trans h.output, Nat.le_trans h.size k.size, fun i hi hne => (k.block i (Nat.lt_of_lt_of_le hi h.size) hne).trans (h.block i hi hne)⟩
/-- A slice that was made later is not touched by what is written into an earlier one. -/
theorem Own.apart {w0 w1 w2 : World} {B1 : Nat} {E1 : TypeId} {v1 : Value} {ys : List Value} (h1 : Own w0 B1 E1 v1 ys) (h2 : Own w1 B E v xs) (hB : w0.heap.size ≤ B) (hg : w1.grownBy w2 v1.ownBlock) : Own w2 B E v xs := by
  refine World.ownsRow.kept h2 hg ?_
  cases hv : v.ownBlock with
  | none => exact .inl rfl
  | some g =>
    right
    intro he
    have h3 := (World.ownsRow.lt h2 g hv).1
    have h4 := (World.ownsRow.lt h1 g he.symm).2
    omega
/-- .. nor an earlier one by what is written into a later one. -/
theorem Own.apart' {w0 w1 w2 : World} {B1 : Nat} {E1 : TypeId} {v1 : Value} {ys : List Value} (h1 : Own w0 B1 E1 v1 ys) (h0 : Own w B E v xs) (h2 : Own w1 B E v xs) (hB : w.heap.size ≤ B1) (hg : w1.grownBy w2 v1.ownBlock) : Own w2 B E v xs := by
  refine World.ownsRow.kept h2 hg ?_
  cases hv : v.ownBlock with
  | none => exact .inl rfl
  | some g =>
    right
    intro he
    have h3 := (World.ownsRow.lt h0 g hv).2
    have h4 := (World.ownsRow.lt h1 g he.symm).1
    omega
theorem Own.made {z : Value} {n : Nat} (hB : B ≤ w.heap.size) (hn : n ≤ maxLen) : Own (w.alloc (.cells (madeCells #[z] n) E)) B E (.slice (some ⟨w.heap.size, 0, none⟩) n n) (List.replicate n z) := by
  have h := World.ownsRow_lit (base := B) (e := E) (size := 1) w (madeCells #[z] n) n hB hn (by rw [← Array.length_toList, toList_madeCells_one]; simp)
  rw [toList_madeCells_one] at h
  unfold Own
  rwa [List.length_replicate]
theorem Own.dr (h : Own w B E v xs) (hd : Dr w w') : Own w' B E v xs := h.below hd.below
end

section
variable {P : Program} {w : World} {B : Nat} {E : TypeId} {v : Value} {xs : List Value}
/-- 'out = append(out, u)': u lies in a block of its own that was laid last. -/
theorem wp_append1 {ops : Array Oper} {rest : List Oper} {o : Oper} {a : Act} {Q : Exit → Act → World → Prop} (hgd : o.guard = none) (s x : Operand) (t : TypeId)
    (ho : o.op = .call { callee := .builtin .append, args := #[s, x], argTypes := #[t, t] })
    (z : Value) (bytes : Nat) (ht : P.underlying t = some (.slice E)) (hinfo : (P.info? E).map (fun i => (i.zero, i.size, i.bytes)) = some (some z, 1, bytes)) (hzs : z.cells.size = 1)
    (hs : a.eval s = v) (hown : Own w B E v xs) (u : Value) (hu : u.oneCell' = true)
    (hx : a.eval x = .slice (some ⟨w.heap.size, 0, none⟩) 1 1) (n : Nat)
    (hl : xs.length = n) (hn : n < 4294967296) (hb16 : bytes ≤ 1024) (hB : B ≤ w.heap.size)
    (h : ∀ A c w', Own w' B E (.slice A (n + 1) c) (xs ++ [u]) → Below B w w' → w.heap.size ≤ w'.heap.size → wpList P ops Q rest (a.put o.dst (.slice A (n + 1) c)) w') :
    wpList P ops Q (o :: rest) a (w.alloc (.cells #[u] E)) := by
  obtain ⟨i, hi, hz, hsize, hby⟩ := info_parts hinfo
  subst hl
  refine wpList_append_own (w.alloc (.cells #[u] E)) hgd s x t ho B E i z 1 bytes ht hi hz hsize hby hzs (by decide) v xs.length xs hs (World.ownsRow.alloc hown _)
    ⟨w.heap.size, 0, none⟩ 1 1 [u] hx rfl ?_ ?_ ?_ ?_ ?_ ?_
  · intro j q hj
    match j, hj with
    | 0, hj => simp at hj; subst hj; simp [Addr.add]
  · intro q hq; simp at hq; subst hq; exact hu
  · unfold maxLen; omega
  · calc (xs.length + 1) * bytes ≤ 4294967296 * 1024 := Nat.mul_le_mul (by omega) hb16
      _ ≤ 140737488355328 := by decide
  · simp; omega
  · intro v' w1 hown' hgrow _
    have hown2 : Own w1 B E v' (xs ++ [u]) := by
      unfold Own; simpa using hown'
    have hbel : Below B w w1 := by
      refine ((Below.refl B w).alloc hB _).grown hgrow (by simp; omega) ?_
      intro k hk
      exact (World.ownsRow.lt hown k hk).1
    obtain ⟨A, c, hv, _⟩ := hown2.shape
    have hl : (xs ++ [u]).length = xs.length + 1 := by simp
    rw [hl] at hv
    rw [hv]
    rw [hv] at hown2
    exact h A c w1 hown2 hbel hbel.size
end
theorem Own.empty {w : World} {B : Nat} {E : TypeId} (hB : B ≤ w.heap.size) : Own (w.alloc (.cells #[] E)) B E (.slice (some ⟨w.heap.size, 0, none⟩) 0 0) [] := by
  have h := World.ownsRow_lit (base := B) (e := E) (size := 1) w #[] 0 hB (Nat.zero_le _) rfl
  simpa [Own] using h
theorem Own.one {w : World} {B : Nat} {E : TypeId} {u : Value} (hB : B ≤ w.heap.size) : Own (w.alloc (.cells #[u] E)) B E (.slice (some ⟨w.heap.size, 0, none⟩) 1 1) [u] := by
  have h := World.ownsRow_lit (base := B) (e := E) (size := 1) w #[u] 1 hB (by unfold maxLen; omega) rfl
  simpa [Own] using h

/-- What the walk is told of a slice of integers that came in. -/
def IntsIn (w : World) (A : Option Addr) (n c : Nat) (zs : List Int) : Prop :=
  zs.length = n ∧ n ≤ c ∧ c ≤ maxLen ∧ (∀ z ∈ zs, I64 z) ∧ Rds w w.heap.size A (zs.map (Value.int .i64))
/-- What the walk is told of a slice of strings that came in. -/
def StrsIn (w : World) (A : Option Addr) (n c : Nat) (ss : List ByteArray) : Prop :=
  ss.length = n ∧ n ≤ c ∧ c ≤ maxLen ∧ (∀ s ∈ ss, s.size ≤ maxLen) ∧ Rds w w.heap.size A (ss.map Value.string)

theorem IntsIn.later {w w' : World} {A : Option Addr} {n c : Nat} {zs : List Int} (h : IntsIn w A n c zs) (hb : Below w.heap.size w w') : IntsIn w' A n c zs :=
  ⟨h.1, h.2.1, h.2.2.1, h.2.2.2.1, (h.2.2.2.2.below hb (Nat.le_refl _)).more hb.size⟩
theorem StrsIn.later {w w' : World} {A : Option Addr} {n c : Nat} {zs : List ByteArray} (h : StrsIn w A n c zs) (hb : Below w.heap.size w w') : StrsIn w' A n c zs :=
  ⟨h.1, h.2.1, h.2.2.1, h.2.2.2.1, (h.2.2.2.2.below hb (Nat.le_refl _)).more hb.size⟩
theorem StrsIn.dr {w w' : World} {A : Option Addr} {n c : Nat} {zs : List ByteArray} (h : StrsIn w A n c zs) (hb : Dr w w') : StrsIn w' A n c zs := h.later hb.below
theorem IntsIn.dr {w w' : World} {A : Option Addr} {n c : Nat} {zs : List Int} (h : IntsIn w A n c zs) (hb : Dr w w') : IntsIn w' A n c zs := h.later hb.below

section
variable {H : Type} {enc : TypeId × Value → H} {W : World} {A : Option Addr} {n c : Nat} {t e : TypeId} {d : DataW H} {ps : List MemPlace}
theorem row_lt {a : Addr} {m : Nat} (hm : 0 < m) (hlt : ∀ x ∈ MemPlace.row a m, x.block < W.heap.size) : a.block < W.heap.size := by
  exact hlt (.cell a.block (a.off + 0)) (List.mem_map.2 ⟨0, List.mem_range.2 hm, rfl⟩)
theorem ints_in (ht : Tryd.prog.underlying t = some (.slice e)) (he : Tryd.prog.underlying e = some (.int .i64)) (hc : Tryd.prog.cellsOf e = 1)
    (h : DataW.Trod enc Tryd.prog W 0 (fun _ => true) true t (.slice A n c) d ps) (hlt : ∀ x ∈ ps, x.block < W.heap.size) : ∃ zs, IntsIn W A n c zs := by
  obtain ⟨fuel, hf⟩ := h
  rcases open_ints ht he hc hf with ⟨hcs, _⟩ | ⟨x, l, cap, zs, hcs, _, hl, hm, hz, hx, hcell, hwz⟩
  · simp [Value.cells] at hcs
    obtain ⟨rfl, rfl, rfl⟩ := hcs
    exact ⟨[], rfl, Nat.le_refl _, Nat.zero_le _, by simp, Rds.nil⟩
  · simp [Value.cells] at hcs
    obtain ⟨rfl, rfl, rfl⟩ := hcs
    simp only [if_true] at hz
    have hps : ps = MemPlace.row x zs.length := by injection hx
    refine ⟨zs.take n, by simp; omega, hl, hm, fun z hz => int_bounds (hwz z (List.mem_of_mem_take hz)), ?_⟩
    intro k u hu
    have hk : k < n ∧ k < zs.length := by
      have := (List.getElem?_eq_some_iff.1 hu).1
      simp at this; omega
    refine ⟨x, rfl, row_lt (m := zs.length) (by omega) (by rw [← hps]; exact hlt), ?_⟩
    rw [hcell k hk.2]
    rw [List.getElem?_map, List.getElem?_take_of_lt hk.1] at hu
    rw [← hu, List.getD_eq_getElem?_getD, List.getElem?_eq_getElem hk.2]
    rfl
theorem strs_in (ht : Tryd.prog.underlying t = some (.slice e)) (he : Tryd.prog.underlying e = some .string) (hc : Tryd.prog.cellsOf e = 1)
    (h : DataW.Trod enc Tryd.prog W 0 (fun _ => true) true t (.slice A n c) d ps) (hlt : ∀ x ∈ ps, x.block < W.heap.size) : ∃ zs, StrsIn W A n c zs := by
  obtain ⟨fuel, hf⟩ := h
  rcases open_strings ht he hc hf with ⟨hcs, _⟩ | ⟨x, l, cap, zs, hcs, _, hl, hm, hz, hx, hcell, hwz⟩
  · simp [Value.cells] at hcs
    obtain ⟨rfl, rfl, rfl⟩ := hcs
    exact ⟨[], rfl, Nat.le_refl _, Nat.zero_le _, by simp, Rds.nil⟩
  · simp [Value.cells] at hcs
    obtain ⟨rfl, rfl, rfl⟩ := hcs
    simp only [if_true] at hz
    have hps : ps = MemPlace.row x zs.length := by injection hx
    refine ⟨zs.take n, by simp; omega, hl, hm, fun z hz => hwz z (List.mem_of_mem_take hz), ?_⟩
    intro k u hu
    have hk : k < n ∧ k < zs.length := by
      have := (List.getElem?_eq_some_iff.1 hu).1
      simp at this; omega
    refine ⟨x, rfl, row_lt (m := zs.length) (by omega) (by rw [← hps]; exact hlt), ?_⟩
    rw [hcell k hk.2]
    rw [List.getElem?_map, List.getElem?_take_of_lt hk.1] at hu
    rw [← hu, List.getD_eq_getElem?_getD, List.getElem?_eq_getElem hk.2]
    rfl
end

end Go.Proofs.YtaihigaafjmpiaaDoor
