/- Texts of this claim, one behind the other: Base, Mem, Hsh, Byt, Help, Box, Det, Owb, Abc, Apf, Byi. No condition but what each says. -/
import Derived.Test.YtbegecoocgkbiaaGreatDoorRows
import Derived.WalkKit
import Derived.WalkSpells
import Derived.WalkLawsBesides
import Derived.Deep.QuietTactic
import Derived.BigQuiet
import Derived.Lib.Hide
import Derived.Lib.Strings
import Derived.Lib.IndexBytes
import Derived.ProofKit
import Derived.OpenShut
import Derived.ShutString
import Derived.ChangeOld
import Derived.Below
import Derived.SliceStrings
import Derived.Deep.RegionWith
import Derived.Maps.AppendAt
import Derived.OwnWalk
import Derived.Laws.OwnMore
import Derived.Deep.OwnRows
import Derived.Handed
import Derived.SizedLaws
import Derived.HandedShaped
import Derived.Laws.IdiomStrings
import Derived.Lib.BufferRead
import Derived.Laws.Rows
import Derived.Laws.Append
import Derived.Lib.SlBytesConst
/- Small facts used by all texts of this seat: bounds of integers, arguments that are slices, readings of strings. No condition. -/
namespace Go.Proofs.YtbegecoocgkbiaaGreatDoor
open Go.RowKit Go.ChangeShapes Go.WideShapes
set_option linter.unusedVariables false

theorem own : ownKnob Tryz.prog.godebug = none := by kernel_rfl
theorem laidOut : laidOutB Tryz.prog = true := by kernel_rfl

/-- The bounds of an int. -/
def I64 (a : Int) : Prop := -9223372036854775808 ≤ a ∧ a ≤ 9223372036854775807
theorem int_bounds {a : Int} (h : (Lit.int .i64 a).wf = true) : I64 a := by
  simp [Lit.wf, IntKind.min, IntKind.max, IntKind.signed, IntKind.bits] at h
  exact ⟨by omega, by omega⟩

theorem ret_int {k : IntKind} {a b : Int} (h : a = b) : Ending.returned (.int k a) = .returned (.int k b) := by rw [h]
theorem ret_bool {a b : Bool} (h : a = b) : Ending.returned (.bool a) = .returned (.bool b) := by rw [h]

theorem below_drewN {B : Nat} {a w : World} (h : Below B a w) (n : Nat) : Below B a (w.drewN n) := ⟨h.os, h.tape, h.output, h.size, h.block⟩

/-- The second world is the first one after some draws. -/
def Dr (w w' : World) : Prop := ∃ n, w.drewN n = w'
theorem Dr.refl (w : World) : Dr w w := ⟨0, rfl⟩
theorem Dr.drewN {w w' : World} (h : Dr w w') (n : Nat) : Dr w (w'.drewN n) := by
  obtain ⟨m, rfl⟩ := h
  exact ⟨m + n, by rw [World.drewN_drewN]⟩
theorem Dr.drew {w w' : World} (h : Dr w w') : Dr w w'.drew := h.drewN 1
theorem Dr.trans {a b c : World} (h : Dr a b) (k : Dr b c) : Dr a c := by
  obtain ⟨m, rfl⟩ := k
  exact h.drewN m
theorem Dr.same {w w' : World} (h : w = w') : Dr w w' := ⟨0, h⟩
theorem Dr.below {w w' : World} (h : Dr w w') {B : Nat} : Below B w w' := by
  obtain ⟨n, rfl⟩ := h
  exact below_drewN (Below.refl _ _) n
/-- A contract of a callee that only reads, as a region that draws its order asks it. -/
theorem quiet_dr {P : Program} {f : FuncId} {args : Array Value} {w : World} {n : Nat} {v : Value}
    (h : Calls P f args (w.drewN n) fun e w' => e = .returned v ∧ Dr (w.drewN n) w') : Calls P f args (w.drewN n) fun e w'' => e = .returned v ∧ ∃ m, w'' = w.drewN m :=
  h.mono fun _ _ ⟨he, m, hm⟩ => ⟨he, n + m, by rw [← hm, World.drewN_drewN]⟩
theorem quiet_eq {P : Program} {f : FuncId} {args : Array Value} {w : World} {n : Nat} {v : Value}
    (h : Calls P f args (w.drewN n) fun e w' => e = .returned v ∧ w.drewN n = w') : Calls P f args (w.drewN n) fun e w'' => e = .returned v ∧ ∃ m, w'' = w.drewN m :=
  h.mono fun _ _ ⟨he, hm⟩ => ⟨he, n, hm.symm⟩

theorem bytes_ext {a b : ByteArray} (h : a.data.toList = b.data.toList) : a = b := WideShapes.bytes_inj h
/-- '==' of strings, in the walk's own spelling. -/
theorem str_eq (x y : ByteArray) : (x.toList == y.toList) = decide (x = y) := by
  rw [ByteArray.toList_eq, ByteArray.toList_eq, Bool.eq_iff_iff]
  simp
  exact ⟨fun h => by cases x; cases y; simpa using h, fun h => by rw [h]⟩
theorem str_ne {x y : ByteArray} (h : x ≠ y) : (x.toList == y.toList) = false := by rw [str_eq, decide_eq_false h]
/-- The letters of a string. -/
abbrev L (s : ByteArray) : List UInt8 := s.data.toList
theorem L_len (s : ByteArray) : (L s).length = s.size := by simp [L]
theorem drop_at (s : ByteArray) (k : Nat) (h : k < s.size) : (L s).drop k = s[k] :: (L s).drop (k + 1) := by
  rw [List.drop_eq_getElem_cons (by simpa using h)]; rfl
theorem drop_end (s : ByteArray) (k : Nat) (h : ¬ k < s.size) : (L s).drop k = [] := by
  apply List.drop_eq_nil_of_le; simp; omega
theorem L_extract (s : ByteArray) (a b : Nat) : L (s.extract a b) = ((L s).take b).drop a := by
  simp [L, ByteArray.data_extract, List.drop_take]

end Go.Proofs.YtbegecoocgkbiaaGreatDoor

/- Slices in memory: a slice that reads as a list; a slice that the call itself has made; what one append makes of it. No condition. -/
namespace Go.Proofs.YtbegecoocgkbiaaGreatDoor
open Go.RowKit Go.ChangeShapes Go.WideShapes
set_option linter.unusedVariables false

theorem some_of_lt {α : Type} {l : List α} {k : Nat} (h : k < l.length) : ∃ x, l[k]? = some x := ⟨l[k], List.getElem?_eq_getElem h⟩
theorem drop_at_list {α : Type} {l : List α} {k : Nat} {x : α} (h : l[k]? = some x) : l.drop k = x :: l.drop (k + 1) := by
  obtain ⟨hk, rfl⟩ := List.getElem?_eq_some_iff.1 h
  exact List.drop_eq_getElem_cons hk
theorem map_at {α β : Type} {l : List α} {k : Nat} {x : α} (f : α → β) (h : l[k]? = some x) : (l.map f)[k]? = some (f x) := by
  rw [List.getElem?_map, h]; rfl

theorem copied_step {α : Type} (xs : List α) (z : α) {k : Nat} {x : α} (h : xs[k]? = some x) :
    (xs.take k ++ List.replicate (xs.length - k) z).set k x = xs.take (k + 1) ++ List.replicate (xs.length - (k + 1)) z := by
  obtain ⟨hk, hx⟩ := List.getElem?_eq_some_iff.1 h
  have hl : (xs.take k).length = k := by simp; omega
  rw [List.set_append_right _ _ (by omega), hl, Nat.sub_self, List.take_add_one, h]
  obtain ⟨m, hm⟩ : ∃ m, xs.length - k = m + 1 := ⟨xs.length - k - 1, by omega⟩
  rw [hm, List.replicate_succ, List.set_cons_zero, show xs.length - (k + 1) = m by omega]
  simp

/-- The slice that begins at A holds the cells xs, below block B. -/
def Rds (w : World) (B : Nat) (A : Option Addr) (xs : List Value) : Prop :=
  ∀ k u, xs[k]? = some u → ∃ ad, A = some ad ∧ ad.block < B ∧ w.cell? (ad.add k) = some u

theorem block_add (a : Addr) (n : Nat) : (a.add n).block = a.block := by unfold Addr.add; split <;> rfl

section
variable {w w' : World} {B B' : Nat} {A : Option Addr} {xs : List Value}
theorem Rds.nil : Rds w B A [] := fun k u h => by simp at h
theorem Rds.keep (h : Rds w B A xs) (hk : ∀ p : Addr, p.block < B → w'.cell? p = w.cell? p) : Rds w' B A xs := fun k u hu => by
  obtain ⟨ad, e, hb, hc⟩ := h k u hu
  exact ⟨ad, e, hb, (hk _ (by rw [block_add]; exact hb)).trans hc⟩
theorem Rds.more (h : Rds w B A xs) (hB : B ≤ B') : Rds w B' A xs := fun k u hu => by
  obtain ⟨ad, e, hb, hc⟩ := h k u hu
  exact ⟨ad, e, by omega, hc⟩
theorem Rds.below (h : Rds w B A xs) (hb : Below B' w w') (hB : B ≤ B') : Rds w' B A xs := h.keep fun p hp => hb.cell (by omega)
theorem Rds.dr (h : Rds w B A xs) (hb : Dr w w') : Rds w' B A xs := h.keep fun p hp => (hb.below (B := p.block + 1)).cell (by omega)
theorem Rds.at_ (h : Rds w B A xs) {k : Nat} {u : Value} (hu : xs[k]? = some u) : ∃ ad, A = some ad ∧ w.cell? (ad.add k) = some u := by
  obtain ⟨ad, e, _, hc⟩ := h k u hu
  exact ⟨ad, e, hc⟩
end

/-- The slice v is the call's own, in blocks from B on; its elements are the cells xs of type E. -/
def Own (w : World) (B : Nat) (E : TypeId) (v : Value) (xs : List Value) : Prop := w.ownsRow B E 1 v xs.length xs

section
variable {w w' : World} {B B' : Nat} {E : TypeId} {v : Value} {xs : List Value}
theorem Own.nil : Own w B E (.slice none 0 0) [] := World.ownsRow_nil _ _ _ _
theorem Own.shape (h : Own w B E v xs) : ∃ A c, v = .slice A xs.length c ∧ xs.length ≤ c ∧ c ≤ maxLen ∧ Rds w w.heap.size A xs := by
  have hl := h.lt
  rcases h.2 with ⟨rfl, hn⟩ | ⟨g, cap, cur, rfl, hb, hg, hn, hm, hs, ht⟩
  · have hx : xs = [] := List.eq_nil_of_length_eq_zero hn
    subst hx
    exact ⟨none, 0, rfl, Nat.le_refl _, Nat.zero_le _, Rds.nil⟩
  · refine ⟨some ⟨g, 0, none⟩, cap, rfl, hn, hm, fun k u hu => ⟨_, rfl, (hl g rfl).2, ?_⟩⟩
    exact World.ownsRow.cells h (g := g) rfl k u hu
theorem Own.reads {A : Option Addr} {n c : Nat} (h : Own w B E (.slice A n c) xs) : Rds w w.heap.size A xs := by
  obtain ⟨A', c', hv, _, _, hr⟩ := h.shape
  injection hv with h1 h2 h3
  rw [h1]; exact hr
theorem Own.below (h : Own w B E v xs) (hb : Below w.heap.size w w') : Own w' B E v xs :=
  World.ownsRow.kept (row := none) h ⟨hb.os, hb.tape, hb.output, hb.size, fun k hk _ => hb.block k hk⟩ (by cases hv : v.ownBlock <;> simp)
theorem Own.lower (h : Own w B E v xs) (hB : B' ≤ B) : Own w B' E v xs := by
  refine ⟨h.1, ?_⟩
  rcases h.2 with h0 | ⟨g, cap, cur, hv, hb, rest⟩
  · exact .inl h0
  · exact .inr ⟨g, cap, cur, hv, by omega, rest⟩
theorem Own.store {A : Option Addr} {n c k : Nat} (h : Own w B E (.slice A n c) xs) (hk : k < xs.length) :
    ∃ g, A = some ⟨g, 0, none⟩ ∧ B ≤ g ∧ g < w.heap.size ∧ w.cell? ⟨g, k, none⟩ = xs[k]? ∧ w.frozen? ⟨g, k, none⟩ = false ∧
      ∀ u, Own (w.setCell ⟨g, k, none⟩ u) B E (.slice A n c) (xs.set k u) ∧ Below B w (w.setCell ⟨g, k, none⟩ u) ∧ w.grownBy (w.setCell ⟨g, k, none⟩ u) (Value.slice A n c).ownBlock := by
  obtain ⟨A', c', hv, _, _, _⟩ := h.shape
  injection hv with h1 h2 h3
  subst h1 h2 h3
  have hl := h.lt
  have hA : ∃ g, A = some ⟨g, 0, none⟩ := by
    rcases h.2 with ⟨hn, h0⟩ | ⟨g, cap, cur, hv, _⟩
    · omega
    · injection hv with h1; exact ⟨g, h1⟩
  obtain ⟨g, rfl⟩ := hA
  have hg := hl g rfl
  refine ⟨g, rfl, hg.1, hg.2, World.ownsRow.cellAt h k (by omega), World.ownsRow.frozenAt h k, fun u => ⟨?_, (Below.refl _ _).setCell hg.1 u, (World.ownsRow.stored h k u).2⟩⟩
  have := (World.ownsRow.stored h k u).1
  unfold Own
  rwa [List.length_set]
theorem grownBy_trans {a b c : World} {row : Option Nat} (h : a.grownBy b row) (k : b.grownBy c row) : a.grownBy c row :=
  ⟨k.os.trans h.os, k.tape.trans h.tape, k.output.trans h.output, Nat.le_trans h.size k.size, fun i hi hne => (k.block i (Nat.lt_of_lt_of_le hi h.size) hne).trans (h.block i hi hne)⟩
/-- A slice that was made later is not touched by what is written into an earlier one. -/
theorem Own.apart {w0 w1 w2 : World} {B1 : Nat} {E1 : TypeId} {v1 : Value} {ys : List Value} (h1 : Own w0 B1 E1 v1 ys) (h2 : Own w1 B E v xs) (hB : w0.heap.size ≤ B) (hg : w1.grownBy w2 v1.ownBlock) : Own w2 B E v xs := by
  refine World.ownsRow.kept h2 hg ?_
  cases hv : v.ownBlock with
  | none => exact .inl rfl
  | some g =>
    right
    intro he
    have h3 := (World.ownsRow.lt h2 g hv).1
    have h4 := (World.ownsRow.lt h1 g he.symm).2
    omega
/-- .. nor an earlier one by what is written into a later one. -/
theorem Own.apart' {w0 w1 w2 : World} {B1 : Nat} {E1 : TypeId} {v1 : Value} {ys : List Value} (h1 : Own w0 B1 E1 v1 ys) (h0 : Own w B E v xs) (h2 : Own w1 B E v xs) (hB : w.heap.size ≤ B1) (hg : w1.grownBy w2 v1.ownBlock) : Own w2 B E v xs := by
  refine World.ownsRow.kept h2 hg ?_
  cases hv : v.ownBlock with
  | none => exact .inl rfl
  | some g =>
    right
    intro he
    have h3 := (World.ownsRow.lt h0 g hv).2
    have h4 := (World.ownsRow.lt h1 g he.symm).1
    omega
theorem Own.made {z : Value} {n : Nat} (hB : B ≤ w.heap.size) (hn : n ≤ maxLen) : Own (w.alloc (.cells (madeCells #[z] n) E)) B E (.slice (some ⟨w.heap.size, 0, none⟩) n n) (List.replicate n z) := by
  have h := World.ownsRow_lit (base := B) (e := E) (size := 1) w (madeCells #[z] n) n hB hn (by rw [← Array.length_toList, toList_madeCells_one]; simp)
  rw [toList_madeCells_one] at h
  unfold Own
  rwa [List.length_replicate]
theorem Own.dr (h : Own w B E v xs) (hd : Dr w w') : Own w' B E v xs := h.below hd.below
end

section
variable {P : Program} {w : World} {B : Nat} {E : TypeId} {v : Value} {xs : List Value}
/-- 'out = append(out, u)': u lies in a block of its own that was laid last. -/
theorem wp_append1 {ops : Array Oper} {rest : List Oper} {o : Oper} {a : Act} {Q : Exit → Act → World → Prop} (hgd : o.guard = none) (s x : Operand) (t : TypeId)
    (ho : o.op = .call { callee := .builtin .append, args := #[s, x], argTypes := #[t, t] })
    (z : Value) (bytes : Nat) (ht : P.underlying t = some (.slice E)) (hinfo : (P.info? E).map (fun i => (i.zero, i.size, i.bytes)) = some (some z, 1, bytes)) (hzs : z.cells.size = 1)
    (hs : a.eval s = v) (hown : Own w B E v xs) (u : Value) (hu : u.oneCell' = true)
    (hx : a.eval x = .slice (some ⟨w.heap.size, 0, none⟩) 1 1) (n : Nat)
    (hl : xs.length = n) (hn : n < 4294967296) (hb16 : bytes ≤ 1024) (hB : B ≤ w.heap.size)
    (h : ∀ A c w', Own w' B E (.slice A (n + 1) c) (xs ++ [u]) → Below B w w' → w.heap.size ≤ w'.heap.size → wpList P ops Q rest (a.put o.dst (.slice A (n + 1) c)) w') :
    wpList P ops Q (o :: rest) a (w.alloc (.cells #[u] E)) := by
  obtain ⟨i, hi, hz, hsize, hby⟩ := info_parts hinfo
  subst hl
  refine wpList_append_own (w.alloc (.cells #[u] E)) hgd s x t ho B E i z 1 bytes ht hi hz hsize hby hzs (by decide) v xs.length xs hs (World.ownsRow.alloc hown _)
    ⟨w.heap.size, 0, none⟩ 1 1 [u] hx rfl ?_ ?_ ?_ ?_ ?_ ?_
  · intro j q hj
    match j, hj with
    | 0, hj => simp at hj; subst hj; simp [Addr.add]
  · intro q hq; simp at hq; subst hq; exact hu
  · unfold maxLen; omega
  · calc (xs.length + 1) * bytes ≤ 4294967296 * 1024 := Nat.mul_le_mul (by omega) hb16
      _ ≤ 140737488355328 := by decide
  · simp; omega
  · intro v' w1 hown' hgrow _
    have hown2 : Own w1 B E v' (xs ++ [u]) := by
      unfold Own; simpa using hown'
    have hbel : Below B w w1 := by
      refine ((Below.refl B w).alloc hB _).grown hgrow (by simp; omega) ?_
      intro k hk
      exact (World.ownsRow.lt hown k hk).1
    obtain ⟨A, c, hv, _⟩ := hown2.shape
    have hl : (xs ++ [u]).length = xs.length + 1 := by simp
    rw [hl] at hv
    rw [hv]
    rw [hv] at hown2
    exact h A c w1 hown2 hbel hbel.size
end
theorem Own.empty {w : World} {B : Nat} {E : TypeId} (hB : B ≤ w.heap.size) : Own (w.alloc (.cells #[] E)) B E (.slice (some ⟨w.heap.size, 0, none⟩) 0 0) [] := by
  have h := World.ownsRow_lit (base := B) (e := E) (size := 1) w #[] 0 hB (Nat.zero_le _) rfl
  simpa [Own] using h
theorem Own.one {w : World} {B : Nat} {E : TypeId} {u : Value} (hB : B ≤ w.heap.size) : Own (w.alloc (.cells #[u] E)) B E (.slice (some ⟨w.heap.size, 0, none⟩) 1 1) [u] := by
  have h := World.ownsRow_lit (base := B) (e := E) (size := 1) w #[u] 1 hB (by unfold maxLen; omega) rfl
  simpa [Own] using h

/-- What the walk is told of a slice of integers that came in. -/
def IntsIn (w : World) (A : Option Addr) (n c : Nat) (zs : List Int) : Prop :=
  zs.length = n ∧ n ≤ c ∧ c ≤ maxLen ∧ (∀ z ∈ zs, I64 z) ∧ Rds w w.heap.size A (zs.map (Value.int .i64))
/-- What the walk is told of a slice of strings that came in. -/
def StrsIn (w : World) (A : Option Addr) (n c : Nat) (ss : List ByteArray) : Prop :=
  ss.length = n ∧ n ≤ c ∧ c ≤ maxLen ∧ (∀ s ∈ ss, s.size ≤ maxLen) ∧ Rds w w.heap.size A (ss.map Value.string)

theorem IntsIn.later {w w' : World} {A : Option Addr} {n c : Nat} {zs : List Int} (h : IntsIn w A n c zs) (hb : Below w.heap.size w w') : IntsIn w' A n c zs :=
  ⟨h.1, h.2.1, h.2.2.1, h.2.2.2.1, (h.2.2.2.2.below hb (Nat.le_refl _)).more hb.size⟩
theorem StrsIn.later {w w' : World} {A : Option Addr} {n c : Nat} {zs : List ByteArray} (h : StrsIn w A n c zs) (hb : Below w.heap.size w w') : StrsIn w' A n c zs :=
  ⟨h.1, h.2.1, h.2.2.1, h.2.2.2.1, (h.2.2.2.2.below hb (Nat.le_refl _)).more hb.size⟩
theorem StrsIn.dr {w w' : World} {A : Option Addr} {n c : Nat} {zs : List ByteArray} (h : StrsIn w A n c zs) (hb : Dr w w') : StrsIn w' A n c zs := h.later hb.below
theorem IntsIn.dr {w w' : World} {A : Option Addr} {n c : Nat} {zs : List Int} (h : IntsIn w A n c zs) (hb : Dr w w') : IntsIn w' A n c zs := h.later hb.below

section
variable {H : Type} {enc : TypeId × Value → H} {W : World} {A : Option Addr} {n c : Nat} {t e : TypeId} {d : DataW H} {ps : List MemPlace}
theorem row_lt {a : Addr} {m : Nat} (hm : 0 < m) (hlt : ∀ x ∈ MemPlace.row a m, x.block < W.heap.size) : a.block < W.heap.size := by
  exact hlt (.cell a.block (a.off + 0)) (List.mem_map.2 ⟨0, List.mem_range.2 hm, rfl⟩)
theorem ints_in (ht : Tryz.prog.underlying t = some (.slice e)) (he : Tryz.prog.underlying e = some (.int .i64)) (hc : Tryz.prog.cellsOf e = 1)
    (h : DataW.Trod enc Tryz.prog W 0 (fun _ => true) true t (.slice A n c) d ps) (hlt : ∀ x ∈ ps, x.block < W.heap.size) : ∃ zs, IntsIn W A n c zs := by
  obtain ⟨fuel, hf⟩ := h
  rcases open_ints ht he hc hf with ⟨hcs, _⟩ | ⟨x, l, cap, zs, hcs, _, hl, hm, hz, hx, hcell, hwz⟩
  · simp [Value.cells] at hcs
    obtain ⟨rfl, rfl, rfl⟩ := hcs
    exact ⟨[], rfl, Nat.le_refl _, Nat.zero_le _, by simp, Rds.nil⟩
  · simp [Value.cells] at hcs
    obtain ⟨rfl, rfl, rfl⟩ := hcs
    simp only [if_true] at hz
    have hps : ps = MemPlace.row x zs.length := by injection hx
    refine ⟨zs.take n, by simp; omega, hl, hm, fun z hz => int_bounds (hwz z (List.mem_of_mem_take hz)), ?_⟩
    intro k u hu
    have hk : k < n ∧ k < zs.length := by
      have := (List.getElem?_eq_some_iff.1 hu).1
      simp at this; omega
    refine ⟨x, rfl, row_lt (m := zs.length) (by omega) (by rw [← hps]; exact hlt), ?_⟩
    rw [hcell k hk.2]
    rw [List.getElem?_map, List.getElem?_take_of_lt hk.1] at hu
    rw [← hu, List.getD_eq_getElem?_getD, List.getElem?_eq_getElem hk.2]
    rfl
theorem strs_in (ht : Tryz.prog.underlying t = some (.slice e)) (he : Tryz.prog.underlying e = some .string) (hc : Tryz.prog.cellsOf e = 1)
    (h : DataW.Trod enc Tryz.prog W 0 (fun _ => true) true t (.slice A n c) d ps) (hlt : ∀ x ∈ ps, x.block < W.heap.size) : ∃ zs, StrsIn W A n c zs := by
  obtain ⟨fuel, hf⟩ := h
  rcases open_strings ht he hc hf with ⟨hcs, _⟩ | ⟨x, l, cap, zs, hcs, _, hl, hm, hz, hx, hcell, hwz⟩
  · simp [Value.cells] at hcs
    obtain ⟨rfl, rfl, rfl⟩ := hcs
    exact ⟨[], rfl, Nat.le_refl _, Nat.zero_le _, by simp, Rds.nil⟩
  · simp [Value.cells] at hcs
    obtain ⟨rfl, rfl, rfl⟩ := hcs
    simp only [if_true] at hz
    have hps : ps = MemPlace.row x zs.length := by injection hx
    refine ⟨zs.take n, by simp; omega, hl, hm, fun z hz => hwz z (List.mem_of_mem_take hz), ?_⟩
    intro k u hu
    have hk : k < n ∧ k < zs.length := by
      have := (List.getElem?_eq_some_iff.1 hu).1
      simp at this; omega
    refine ⟨x, rfl, row_lt (m := zs.length) (by omega) (by rw [← hps]; exact hlt), ?_⟩
    rw [hcell k hk.2]
    rw [List.getElem?_map, List.getElem?_take_of_lt hk.1] at hu
    rw [← hu, List.getD_eq_getElem?_getD, List.getElem?_eq_getElem hk.2]
    rfl
end

end Go.Proofs.YtbegecoocgkbiaaGreatDoor

/- The row's frame where a law reads listed tables and the world's shape is wanted too. No condition. -/
namespace Go.Proofs.YtbegecoocgkbiaaGreatDoor
open Go
set_option linter.unusedVariables false

theorem handed_and_shaped {H : Type} {enc : TypeId × Value → H} {a : Assume} {C : Checked} {os : Os} {f : FuncId} {fn : Func} {s : ChangeSpec} {conds : List PathCond} {apart fresh handsOn again : Bool} {X : World → Array Value → Prop}
    (hX : ∀ (w w' : World) (args : Array Value), w.heap = w'.heap → X w args → X w' args)
    (own : ownKnob C.prog.godebug = none) (started : os.Started) (noInit : C.prog.inits.idxOf? f = none) (hfn : C.prog.funcs[f]? = some fn)
    (witness : ∃ (w : World) (tape : Tape) (i : Input), w.os = os ∧ (w.forCall tape i).Shaped C.prog ∧ i.vars = [] ∧ Input.okWide C.prog (w.forCall tape i) .any w.heap.size f i ∧
      ((s.pre enc C.prog fn conds apart (w.forCall tape i).memory i.args ∧ X (w.forCall tape i).memory i.args) ∧ sizedMet enc C.prog fn (OpenSpec.ofChange s) apart (w.forCall tape i).memory i.args) ∧ a.holds C.prog (lone (Frame.enter C.prog f i.args .normal) [] (w.forCall tape i)))
    (contract : ∀ (W : World) (base : Nat) (args : Array Value) (ds gs : List (DataW H)) (before : List MemPlace),
      (∀ (j : Nat) t v, fn.params[j]? = some t → args[j]? = some v → Value.okWide C.prog W .any base t v) →
      DataW.Whole enc C.prog fn.params.toList s.vars apart W args.toList ds gs before → X W args → W.ShapedOpen C.prog →
      Calls C.prog f args W fun e W' => ∃ v, e = .returned v ∧ s.post enc C.prog fn apart fresh handsOn again W args v W') :
    ReturnsInHanded a C os f .any (fun w args => (s.pre enc C.prog fn conds apart w args ∧ X w args) ∧ sizedMet enc C.prog fn (OpenSpec.ofChange s) apart w args) (s.post enc C.prog fn apart fresh handsOn again) := by
  refine returnsInHanded_of_calls own started noInit witness fun w tape i _ hsh _ hok hpre _ => ?_
  obtain ⟨_, _, _, fn2, hfn2, _, _, _, _, hval⟩ := hok
  have e : fn2 = fn := by rw [hfn] at hfn2; exact (Option.some.inj hfn2).symm
  subst e
  obtain ⟨⟨⟨ds, gs, before, hw, _⟩, hx⟩, _⟩ := hpre
  refine (contract (w.forCall tape i) w.heap.size i.args ds gs before hval (DataW.Whole.of_heap (w' := w.forCall tape i) (by rfl) hw) (hX _ _ _ (by rfl) hx) hsh).mono ?_
  rintro x W' ⟨v, rfl, hp⟩
  exact ChangeSpec.post_blind hp
end Go.Proofs.YtbegecoocgkbiaaGreatDoor

/- Slices of bytes: what 'string(b)' makes of them; one byte appended. No condition. -/
namespace Go.Proofs.YtbegecoocgkbiaaGreatDoor
open Go.RowKit
set_option linter.unusedVariables false

def byV (l : List UInt8) : List Value := l.map fun b => Value.int .u8 (b.toNat : Int)
theorem byV_length (l : List UInt8) : (byV l).length = l.length := by simp [byV]
theorem byV_append (l k : List UInt8) : byV (l ++ k) = byV l ++ byV k := by simp [byV]
theorem byV_snoc (l : List UInt8) (b : UInt8) : byV l ++ [Value.int .u8 (b.toNat : Int)] = byV (l ++ [b]) := by simp [byV]
def strOf (l : List UInt8) : ByteArray := ⟨l.toArray⟩
theorem strOf_L (l : List UInt8) : L (strOf l) = l := by simp [L, strOf]
theorem strOf_size (l : List UInt8) : (strOf l).size = l.length := by simp [strOf, ByteArray.size]

/-- 'string(b)' where b's cells are the bytes l. -/
theorem Rds.conv {P : Program} {w : World} {B n : Nat} {A : Option Addr} {l : List UInt8} (h : Rds w B A (byV l)) (hn : l.length = n) (src dst e : TypeId) (c : Nat)
    (hs : P.underlying src = some (.slice e)) (he : P.underlying e = some (.int .u8)) (hd : P.underlying dst = some .string) :
    (convert src dst (.slice A n c)).run P w = .ok (.string (strOf l)) w := by
  subst hn
  cases A with
  | none =>
    have hl : l = [] := by
      cases l with
      | nil => rfl
      | cons b l =>
        obtain ⟨ad, h1, _⟩ := h 0 (Value.int .u8 (b.toNat : Int)) (by simp [byV])
        cases h1
    subst hl
    exact Lib.run_convert_nil_bytes w src dst e c hs he hd
  | some a =>
    refine run_convert_bytes_back w src dst e a c l hs he hd ?_
    intro j hj
    obtain ⟨ad, h1, _, h2⟩ := h j (Value.int .u8 (l[j].toNat : Int)) (by simp [byV, hj])
    injection h1 with h1
    subst h1
    exact h2
theorem info_u8 : (Tryz.prog.info? 5).map (fun i => (i.zero, i.size, i.bytes)) = some (some (.int .u8 0), 1, 1) := by kernel_rfl
end Go.Proofs.YtbegecoocgkbiaaGreatDoor

/- The laws' own helpers: sizes, copies, comparisons, marks. Each does what the plain function says. -/
namespace Go.Proofs.YtbegecoocgkbiaaGreatDoor
open Go.RowKit Go.ChangeShapes Go.WideShapes
set_option linter.unusedVariables false

def szGo : List ByteArray → Int → Int
  | [], l => l
  | s :: ss, l => if l - s.size < 0 then -1 else szGo ss (l - s.size)
/-- What szStringS returns. -/
def szS (ss : List ByteArray) (l : Int) : Int := if l - ss.length < 0 then -1 else szGo ss (l - ss.length)

theorem szGo_ok : ∀ (ss : List ByteArray) (l : Int), 0 ≤ szGo ss l → ∀ s ∈ ss, (s.size : Int) ≤ l
  | [], _, _, s, hs => by cases hs
  | t :: ss, l, h, s, hs => by
    simp only [szGo] at h
    split at h
    · omega
    · rcases List.mem_cons.1 hs with rfl | hs
      · omega
      · have := szGo_ok ss _ h s hs; omega
theorem szS_len {ss : List ByteArray} {l : Int} (h : ¬ szS ss l < 0) : (ss.length : Int) ≤ l := by
  unfold szS at h; split at h <;> omega
theorem szS_mem {ss : List ByteArray} {l : Int} (h : ¬ szS ss l < 0) : ∀ s ∈ ss, (s.size : Int) ≤ l := by
  intro s hs
  unfold szS at h
  split at h
  · omega
  · have := szGo_ok ss (l - ss.length) (by omega) s hs; omega

theorem info_string : (Tryz.prog.info? 9).map (fun i => (i.zero, i.size, i.bytes)) = some (some (.string ByteArray.empty), 1, 16) := by kernel_rfl
theorem info_int : (Tryz.prog.info? 3).map (fun i => (i.zero, i.size, i.bytes)) = some (some (.int .i64 0), 1, 8) := by kernel_rfl

/-- The marks from k on. -/
def marks (k : Int) : Nat → List Int
  | 0 => []
  | n + 1 => k :: marks (k + 1) n
theorem marks_length : ∀ (n : Nat) (k : Int), (marks k n).length = n
  | 0, _ => rfl
  | n + 1, k => by simp [marks, marks_length n]
theorem marks_at : ∀ (n : Nat) (k : Int) (i : Nat), i < n → (marks k n)[i]? = some (k + i)
  | 0, _, _, h => by omega
  | n + 1, k, 0, _ => by simp [marks]
  | n + 1, k, i + 1, h => by
    simp only [marks, List.getElem?_cons_succ]
    rw [marks_at n (k + 1) i (by omega)]
    congr 1; omega
theorem mark_step (xs : List Int) (m : Int) (k : Nat) (hlt : k < xs.length) : ((marks m xs.length).take k ++ xs.drop k).set k (m + k) = (marks m xs.length).take (k + 1) ++ xs.drop (k + 1) := by
  have hl : ((marks m xs.length).take k).length = k := by simp [marks_length]; omega
  rw [List.set_append_right _ _ (by omega), hl, Nat.sub_self, List.take_add_one, marks_at _ _ _ hlt, List.drop_eq_getElem_cons hlt, List.set_cons_zero]
  rw [Option.toList_some, List.append_assoc, List.singleton_append]

end Go.Proofs.YtbegecoocgkbiaaGreatDoor

/- Boxes: blocks that hold one value of a struct's type. No condition. -/
namespace Go.Proofs.YtbegecoocgkbiaaGreatDoor
open Go.RowKit
set_option linter.unusedVariables false

/-- Three boxes: what the second and the third one hold. -/
theorem boxes3 (w : World) (o1 : Obj) (c2 c3 : Array Value) (t2 t3 : TypeId) :
    (((w.alloc o1).alloc (.cells c2 t2)).alloc (.cells c3 t3)).heap[w.heap.size + 1]? = some (.cells c2 t2 (0, 0)) ∧ (((w.alloc o1).alloc (.cells c2 t2)).alloc (.cells c3 t3)).heap[w.heap.size + 1 + 1]? = some (.cells c3 t3 (0, 0)) := by
  have s1 : (w.alloc o1).heap.size = w.heap.size + 1 := by simp
  have s2 : ((w.alloc o1).alloc (.cells c2 t2)).heap.size = w.heap.size + 1 + 1 := by simp
  have h2 := heap_alloc_new (w.alloc o1) (.cells c2 t2)
  have h3 := heap_alloc_new ((w.alloc o1).alloc (.cells c2 t2)) (.cells c3 t3)
  rw [s1] at h2
  rw [s2] at h3
  exact ⟨(heap_alloc_old ((w.alloc o1).alloc (.cells c2 t2)) (.cells c3 t3) (by rw [s2]; omega)).trans h2, h3⟩
theorem boxes3_first (w : World) (c1 : Array Value) (t1 : TypeId) (o2 o3 : Obj) : (((w.alloc (.cells c1 t1)).alloc o2).alloc o3).heap[w.heap.size]? = some (.cells c1 t1 (0, 0)) :=
  (heap_alloc_old _ _ (by simp; omega)).trans ((heap_alloc_old _ _ (by simp)).trans (heap_alloc_new _ _))
/-- A box whose cell k is set. -/
theorem box_set {w : World} {g k : Nat} {cs : Array Value} {t : TypeId} (h : w.heap[g]? = some (.cells cs t (0, 0))) (u : Value) : (w.setCell ⟨g, k, none⟩ u).heap[g]? = some (.cells (cs.setIfInBounds k u) t (0, 0)) := by
  rw [setCell_eq_setRow w g k cs t (0, 0) u h]
  exact setRow_heap w g _ _ t (0, 0) h
theorem box_far {w : World} {g g' k : Nat} {o : Option Obj} (h : w.heap[g]? = o) (hne : g ≠ g') (u : Value) : (w.setCell ⟨g', k, none⟩ u).heap[g]? = o := by
  rw [heap_setCell_other w ⟨g', k, none⟩ g u hne]; exact h
theorem Own.far_set {w : World} {B g k : Nat} {E : TypeId} {v : Value} {xs : List Value} (h : Own w B E v xs) (hg : g < B) (u : Value) : Own (w.setCell ⟨g, k, none⟩ u) B E v xs := by
  have hgr : w.grownBy (w.setCell ⟨g, k, none⟩ u) (some g) := ⟨rfl, rfl, rfl, by simp, fun i _ hne => heap_setCell_other w ⟨g, k, none⟩ i u (fun he => hne (by simp [he]))⟩
  refine World.ownsRow.kept h hgr ?_
  cases hv : v.ownBlock with
  | none => exact .inl rfl
  | some q =>
    right; intro he
    have h1 := (World.ownsRow.lt h q hv).1
    have : q = g := by simpa using he
    omega
end Go.Proofs.YtbegecoocgkbiaaGreatDoor

/- Determinants, plain: the expansion along the first row, over lists, and its bounds; the matrix of a substitution. No condition but the bounds. -/
namespace Go.Proofs.YtbegecoocgkbiaaGreatDoor
set_option linter.unusedVariables false

/-- A row without one place. -/
def cutAt (k : Nat) (r : List Int) : List Int := r.take k ++ r.drop (k + 1)
theorem cutAt_len {k : Nat} {r : List Int} (h : k < r.length) : (cutAt k r).length = r.length - 1 := by
  unfold cutAt; rw [List.length_append, List.length_take, List.length_drop]; omega
theorem cutAt_mem {k : Nat} {r : List Int} {x : Int} (h : x ∈ cutAt k r) : x ∈ r := by
  unfold cutAt at h
  rcases List.mem_append.1 h with h | h
  · exact List.mem_of_mem_take h
  · exact List.mem_of_mem_drop h
/-- The sum along what is left of the first row, from place k on. -/
def dtS (f : List (List Int) → Int) (rs : List (List Int)) : List Int → Nat → Int → Int → Int
  | [], _, _, s => s
  | x :: t, k, g, s => dtS f rs t (k + 1) (-g) (s + g * x * f (rs.map (cutAt k)))
def dtF : Nat → List (List Int) → Int
  | 0, _ => 1
  | _ + 1, [] => 1
  | n + 1, r :: rs => dtS (dtF n) rs r 0 1 0
/-- A square of n rows, its numbers small. -/
def sqM (n : Nat) (m : List (List Int)) : Prop := m.length = n ∧ ∀ r ∈ m, r.length = n ∧ ∀ x ∈ r, -100 ≤ x ∧ x ≤ 100
theorem sq_minor {n : Nat} {r : List Int} {rs : List (List Int)} (h : sqM (n + 1) (r :: rs)) {k : Nat} (hk : k < n + 1) : sqM n (rs.map (cutAt k)) := by
  obtain ⟨h1, h2⟩ := h
  refine ⟨by rw [List.length_map]; simpa using h1, fun y hy => ?_⟩
  obtain ⟨z, hz, rfl⟩ := List.mem_map.1 hy
  obtain ⟨h3, h4⟩ := h2 z (List.mem_cons_of_mem _ hz)
  exact ⟨by rw [cutAt_len (by omega)]; omega, fun x hx => h4 x (cutAt_mem hx)⟩
def dtB : Nat → Nat
  | 0 => 1
  | n + 1 => (n + 1) * (100 * dtB n)
theorem term_bd {g x y : Int} {D : Nat} (hg : g.natAbs = 1) (hx : -100 ≤ x ∧ x ≤ 100) (hy : y.natAbs ≤ D) : (g * x * y).natAbs ≤ 100 * D := by
  rw [Int.natAbs_mul, Int.natAbs_mul, hg, Nat.one_mul]
  exact Nat.mul_le_mul (by omega) hy
theorem dtS_bd {f : List (List Int) → Int} {rs : List (List Int)} {D N : Nat} (hf : ∀ k, k < N → (f (rs.map (cutAt k))).natAbs ≤ D) :
    ∀ (t : List Int) (k : Nat) (g s : Int), k + t.length ≤ N → (∀ x ∈ t, -100 ≤ x ∧ x ≤ 100) → g.natAbs = 1 → (dtS f rs t k g s).natAbs ≤ s.natAbs + t.length * (100 * D)
  | [], k, g, s, _, _, _ => by simp [dtS]
  | x :: t, k, g, s, hk, hx, hg => by
    rw [List.length_cons] at hk
    have h1 := term_bd hg (hx x (by simp)) (hf k (by omega))
    have h2 := dtS_bd hf t (k + 1) (-g) (s + g * x * f (rs.map (cutAt k))) (by omega) (fun y hy => hx y (List.mem_cons_of_mem _ hy)) (by omega)
    have h3 : (t.length + 1) * (100 * D) = t.length * (100 * D) + 100 * D := Nat.succ_mul _ _
    rw [dtS, List.length_cons, h3]
    have h4 := Int.natAbs_add_le s (g * x * f (rs.map (cutAt k)))
    omega
theorem dt_bd : ∀ (n : Nat) (m : List (List Int)), sqM n m → (dtF n m).natAbs ≤ dtB n
  | 0, _, _ => by simp [dtF, dtB]
  | n + 1, [], h => by have := h.1; simp at this
  | n + 1, r :: rs, h => by
    have h2 := h.2 r (by simp)
    have h3 := dtS_bd (D := dtB n) (N := n + 1) (fun k hk => dt_bd n _ (sq_minor h hk)) r 0 1 0 (by omega) h2.2 (by decide)
    rw [h2.1] at h3
    simpa [dtF, dtB] using h3
theorem dtB_le {n : Nat} (h : n ≤ 3) : dtB n ≤ 6000000 := by
  match n, h with
  | 0, _ => decide
  | 1, _ => decide
  | 2, _ => decide
  | 3, _ => decide
theorem dtB_le4 {n : Nat} (h : n ≤ 4) : dtB n ≤ 2400000000 := by
  match n, h with
  | 0, _ => decide
  | 1, _ => decide
  | 2, _ => decide
  | 3, _ => decide
  | 4, _ => decide
/-- One step of the sum. -/
theorem dtS_step {f : List (List Int) → Int} {rs : List (List Int)} {r : List Int} {k : Nat} {g s x : Int} (h : r[k]? = some x) :
    dtS f rs (r.drop k) k g s = dtS f rs (r.drop (k + 1)) (k + 1) (-g) (s + g * x * f (rs.map (cutAt k))) := by
  rw [drop_at_list h, dtS]
theorem dtS_end {f : List (List Int) → Int} {rs : List (List Int)} {r : List Int} {k : Nat} {g s : Int} (h : r.length ≤ k) : dtS f rs (r.drop k) k g s = s := by
  rw [List.drop_eq_nil_of_le h, dtS]

/-- How often a letter stands in a word. -/
def ctC (i : Nat) (y : ByteArray) : Int := ((L y).count (UInt8.ofNat (97 + i)) : Nat)
def mtR (zs : List ByteArray) (i : Nat) : List Int := zs.map (ctC i)
def mtL (zs : List ByteArray) : List (List Int) := (List.range zs.length).map (mtR zs)
theorem ctC_bd {i : Nat} {y : ByteArray} (h : y.size ≤ 8) : 0 ≤ ctC i y ∧ ctC i y ≤ 8 := by
  have := List.count_le_length (a := UInt8.ofNat (97 + i)) (l := L y)
  rw [L_len] at this
  unfold ctC; omega
theorem mt_sq {zs : List ByteArray} (h : ∀ y ∈ zs, y.size ≤ 8) : sqM zs.length (mtL zs) := by
  refine ⟨by simp [mtL], fun r hr => ?_⟩
  obtain ⟨i, _, rfl⟩ := List.mem_map.1 hr
  refine ⟨by simp [mtR], fun x hx => ?_⟩
  obtain ⟨y, hy, rfl⟩ := List.mem_map.1 hx
  have := ctC_bd (i := i) (h y hy)
  omega
theorem mt_row {zs : List ByteArray} {i : Nat} (h : i < zs.length) : (mtL zs)[i]? = some (mtR zs i) := by
  unfold mtL
  rw [List.getElem?_map, List.getElem?_range h]; rfl
/-- The determinant of a substitution. -/
def suD (zs : List ByteArray) : Int := dtF zs.length (mtL zs)
end Go.Proofs.YtbegecoocgkbiaaGreatDoor

/- The block of a slice of one's own; a cell of a slice that reads as a list. No condition. -/
namespace Go.Proofs.YtbegecoocgkbiaaGreatDoor
open Go.RowKit
set_option linter.unusedVariables false

theorem own_block {w : World} {B n c : Nat} {E : TypeId} {A : Option Addr} {xs : List Value} (h : Own w B E (.slice A n c) xs) (hn : 0 < n) : ∃ g, A = some ⟨g, 0, none⟩ := by
  obtain ⟨_, h2 | ⟨g, cap, cur, hv, _⟩⟩ := h
  · have := h2.1
    injection this with e1 e2 e3
    omega
  · injection hv with e1 e2 e3
    exact ⟨g, e1⟩
theorem rds_cell {w : World} {B g k : Nat} {xs : List Value} {u : Value} (h : Rds w B (some ⟨g, 0, none⟩) xs) (hk : xs[k]? = some u) : w.cell? ⟨g, k, none⟩ = some u := by
  obtain ⟨ad, h1, _, h2⟩ := h k u hk
  injection h1 with h1
  subst h1
  rcases Nat.eq_zero_or_pos k with h0 | h0
  · subst h0; simpa [Addr.add] using h2
  · simpa [Addr.add, show k ≠ 0 by omega] using h2
/-- A list's first cells, at a block. -/
theorem rds_cell_any {w : World} {B : Nat} {A : Option Addr} {k : Nat} {xs : List Value} {u : Value} (h : Rds w B A xs) (hk : xs[k]? = some u) : ∃ ad, A = some ad ∧ w.cell? (ad.add k) = some u := h.at_ hk
end Go.Proofs.YtbegecoocgkbiaaGreatDoor

/- The letters a to d as words; strings put together. No condition. -/
namespace Go.Proofs.YtbegecoocgkbiaaGreatDoor
open Go.RowKit
set_option linter.unusedVariables false

def ltr (k : Nat) : UInt8 := UInt8.ofNat (97 + k)
theorem abc_at (k : Nat) (hk : k < 4) : ({ data := #[97, 98, 99, 100] } : ByteArray).extract k (k + 1) = strOf [ltr k] := by
  match k, hk with
  | 0, _ => rfl
  | 1, _ => rfl
  | 2, _ => rfl
  | 3, _ => rfl
theorem abc_ix (k : Nat) (hk : k < 4) : ({ data := #[97, 98, 99, 100] } : ByteArray)[k]'hk = ltr k := by
  match k, hk with
  | 0, _ => rfl
  | 1, _ => rfl
  | 2, _ => rfl
  | 3, _ => rfl
theorem strOf_app (a b : List UInt8) : strOf a ++ strOf b = strOf (a ++ b) := by
  apply bytes_ext
  simp [strOf, ByteArray.data_append]

end Go.Proofs.YtbegecoocgkbiaaGreatDoor

/- One append to a row that may be full and marked (what []byte of a constant lays): its own row from then on. No condition. -/
namespace Go.Proofs.YtbegecoocgkbiaaGreatDoor
open Go.RowKit
set_option linter.unusedVariables false

/-- A slice of one's own, or one whose row is full. -/
def OwnF (w : World) (B : Nat) (E : TypeId) (v : Value) (xs : List Value) : Prop :=
  Own w B E v xs ∨ ∃ g, v = .slice (some ⟨g, 0, none⟩) xs.length xs.length ∧ Rds w w.heap.size (some ⟨g, 0, none⟩) xs
theorem OwnF.reads {w : World} {B n c : Nat} {E : TypeId} {A : Option Addr} {xs : List Value} (h : OwnF w B E (.slice A n c) xs) : Rds w w.heap.size A xs := by
  rcases h with h | ⟨g, hv, h⟩
  · exact h.reads
  · injection hv with e1 e2 e3
    rw [e1]; exact h
theorem OwnF.cap {w : World} {B n c : Nat} {E : TypeId} {A : Option Addr} {xs : List Value} (h : OwnF w B E (.slice A n c) xs) : xs.length ≤ c := by
  rcases h with h | ⟨g, hv, h⟩
  · obtain ⟨_, _, e, h, _⟩ := h.shape
    injection e with e1 e2 e3
    omega
  · injection hv with e1 e2 e3
    omega
theorem wp_append1F {P : Program} {w : World} {B : Nat} {E : TypeId} {v : Value} {xs : List Value} {ops : Array Oper} {rest : List Oper} {o : Oper} {a : Act} {Q : Exit → Act → World → Prop} (hgd : o.guard = none) (s x : Operand) (t : TypeId)
    (ho : o.op = .call { callee := .builtin .append, args := #[s, x], argTypes := #[t, t] })
    (z : Value) (bytes : Nat) (ht : P.underlying t = some (.slice E)) (hinfo : (P.info? E).map (fun i => (i.zero, i.size, i.bytes)) = some (some z, 1, bytes)) (hzs : z.cells.size = 1)
    (hs : a.eval s = v) (hown : OwnF w B E v xs) (u : Value) (hu : u.oneCell' = true)
    (hx : a.eval x = .slice (some ⟨w.heap.size, 0, none⟩) 1 1) (n : Nat)
    (hl : xs.length = n) (hn : n < 4294967296) (hb16 : bytes ≤ 1024) (hB : B ≤ w.heap.size)
    (h : ∀ A c w', Own w' B E (.slice A (n + 1) c) (xs ++ [u]) → Below B w w' → w.heap.size ≤ w'.heap.size → wpList P ops Q rest (a.put o.dst (.slice A (n + 1) c)) w') :
    wpList P ops Q (o :: rest) a (w.alloc (.cells #[u] E)) := by
  rcases hown with hown | ⟨g, hv, hr⟩
  · exact wp_append1 hgd s x t ho z bytes ht hinfo hzs hs hown u hu hx n hl hn hb16 hB h
  · obtain ⟨i, hi, hz, hsize, hby⟩ := info_parts hinfo
    subst hl
    have hb2 : Builtin.nextslicecap (xs.length + 1) xs.length * i.bytes ≤ 281474976710656 := growslice_fits (by omega) (by
      rw [hby]
      calc (xs.length + 1) * bytes ≤ 4294967296 * 1024 := Nat.mul_le_mul (by omega) hb16
        _ ≤ 140737488355328 := by decide)
    have hr2 := hr.below ((Below.refl w.heap.size w).alloc (Nat.le_refl _) (.cells #[u] E)) (Nat.le_refl _)
    have hrun := run_append_grow (P := P) (w.alloc (.cells #[u] E)) t o.type E i z ht hi hz ⟨g, 0, none⟩ xs.length xs.length xs (by rw [hsize, Nat.mul_one]) (fun j y hj => by
        obtain ⟨ad, e, hc⟩ := hr2.at_ hj
        injection e with e
        rw [e]; exact hc) ⟨w.heap.size, 0, none⟩ 1 1 [u] (by rw [hsize]; rfl) (fun j q hj => by match j, hj with | 0, hj => simp at hj; subst hj; simp [Addr.add]) (by omega) (by omega) hb2
    refine wpList_plain hgd fun K hK => ?_
    unfold Oper.wp execOp
    simp only [ho, resolve, invoke, builtin, Sem.run_bind, Sem.run_pure, Result.andThen_ok, List.map_toArray, List.map_cons, List.map_nil, hs, hv, hx, hrun]
    have hge := grownCap_ge (w.alloc (.cells #[u] E)) (xs.length + 1) xs.length E
    have hle := grownCap_le_maxLen (w.alloc (.cells #[u] E)) (xs.length + 1) xs.length E (by unfold maxLen; omega)
    have hbel : Below B w ((w.alloc (.cells #[u] E)).drew.alloc (.cells (xs.toArray ++ [u].toArray ++ Builtin.zeroCells z.cells (grownCap (w.alloc (.cells #[u] E)) (xs.length + 1) xs.length E - (xs.length + 1))) E)) :=
      ((((Below.refl B w).alloc hB _).drew).alloc (by simp; omega) _)
    refine hK _ _ (h _ _ _ ?_ hbel hbel.size)
    refine ⟨by simp, .inr ⟨_, _, _, by rw [List.length_append]; rfl, by simp; omega, heap_alloc_new _ _, by simpa using hge, hle, ?_, ?_⟩⟩
    · simp [Builtin.zeroCells, hzs]; omega
    · rw [Array.toList_append, Array.toList_append, List.toList_toArray]
      rw [Nat.mul_one]
      exact List.take_left' (by simp)
end Go.Proofs.YtbegecoocgkbiaaGreatDoor

/- A slice of bytes that came in. -/
namespace Go.Proofs.YtbegecoocgkbiaaGreatDoor
open Go.RowKit Go.ChangeShapes Go.WideShapes Go.ChangeAt
set_option linter.unusedVariables false

/-- What the walk is told of a slice of bytes that came in. -/
def BytesIn (w : World) (A : Option Addr) (n c : Nat) (l : List UInt8) : Prop :=
  l.length = n ∧ n ≤ c ∧ c ≤ maxLen ∧ Rds w w.heap.size A (byV l)
variable {H : Type} {enc : TypeId × Value → H} {W : World} {t e : TypeId} {A : Option Addr} {n c : Nat} {d : DataW H} {ps : List MemPlace}
theorem byte_int {z : Int} (h : (Lit.int .u8 z).wf = true) : (((UInt8.ofNat z.toNat).toNat : Nat) : Int) = z := by
  have h2 : 0 ≤ z ∧ z ≤ 255 := by
    simp [Lit.wf, IntKind.min, IntKind.max, IntKind.signed, IntKind.bits] at h
    omega
  rw [UInt8.toNat_ofNat']
  omega
theorem bytes_in (ht : Tryz.prog.underlying t = some (.slice e)) (he : Tryz.prog.underlying e = some (.int .u8)) (hc : Tryz.prog.cellsOf e = 1)
    (h : DataW.Trod enc Tryz.prog W 0 (fun _ => true) true t (.slice A n c) d ps) (hlt : ∀ x ∈ ps, x.block < W.heap.size) : ∃ l, BytesIn W A n c l := by
  obtain ⟨fuel, hf⟩ := h
  rcases open_ints ht he hc hf with ⟨hcs, _⟩ | ⟨x, l, cap, zs, hcs, _, hl, hm, hz, hx, hcell, hwz⟩
  · simp [Value.cells] at hcs
    obtain ⟨rfl, rfl, rfl⟩ := hcs
    exact ⟨[], rfl, Nat.le_refl _, Nat.zero_le _, Rds.nil⟩
  · simp [Value.cells] at hcs
    obtain ⟨rfl, rfl, rfl⟩ := hcs
    simp only [if_true] at hz
    have hps : ps = MemPlace.row x zs.length := by injection hx
    refine ⟨(zs.take n).map fun z => UInt8.ofNat z.toNat, by simp; omega, hl, hm, ?_⟩
    intro k u hu
    have hk : k < n ∧ k < zs.length := by
      have := (List.getElem?_eq_some_iff.1 hu).1
      simp [byV] at this; omega
    refine ⟨x, rfl, row_lt (m := zs.length) (by omega) (by rw [← hps]; exact hlt), ?_⟩
    rw [hcell k hk.2]
    rw [byV, List.getElem?_map, List.getElem?_map, List.getElem?_take_of_lt hk.1, List.getElem?_eq_getElem hk.2] at hu
    simp only [Option.map_some, Option.some.injEq] at hu
    rw [← hu, List.getD_eq_getElem?_getD, List.getElem?_eq_getElem hk.2, byte_int (hwz _ (List.getElem_mem hk.2))]
    rfl
end Go.Proofs.YtbegecoocgkbiaaGreatDoor
