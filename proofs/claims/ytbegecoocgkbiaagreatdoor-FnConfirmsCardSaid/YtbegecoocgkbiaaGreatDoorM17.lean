/- Texts of this claim, one behind the other: App2, Ord, Bin, Ins, Ben, Smo, App3, Fac, App4, Brw, Grd. No condition but what each says. -/
import Derived.Test.YtbegecoocgkbiaaGreatDoorEdit
import Derived.Test.YtbegecoocgkbiaaGreatDoorPair
import Derived.Test.YtbegecoocgkbiaaGreatDoorM1
import Derived.Sort.Walk0
import Derived.Sort.KeysCollected
import Derived.Lib.SlicesCompact
import Derived.Test.YtbegecoocgkbiaaGreatDoorBnr
import Derived.Lib.SmallJoins
import Derived.Laws.Rows
import Derived.Deep.AppendLies
import Derived.Deep.RegionHeld3
import Derived.Deep.RegionLaw
import Derived.Lib.ConvBytes
import Derived.Lib.AtoiErrMem
/- One append, beside other slices of the call's own. No condition. -/
namespace Go.Proofs.YtbegecoocgkbiaaGreatDoor
open Go.RowKit
set_option linter.unusedVariables false

/-- The two slices lie in different blocks. -/
def Ap (v v2 : Value) : Prop := ∀ g, v.ownBlock = some g → v2.ownBlock ≠ some g
/-- Whatever else is the call's own stays, and stays apart. -/
def Beside (w w' : World) (v v' : Value) : Prop := ∀ B2 E2 v2 ys, Own w B2 E2 v2 ys → Ap v v2 → Own w' B2 E2 v2 ys ∧ Ap v' v2
section
variable {P : Program} {w : World} {B : Nat} {E : TypeId} {v : Value} {xs : List Value}
theorem beside_of {w0 w1 : World} {g n c H : Nat} (hb : Below w.heap.size w w0) (hH : w0.heap.size = H) (hs : w.heap.size ≤ H) (hg : w0.grownBy w1 v.ownBlock) (hat : v.ownBlock = some g ∨ g = H) :
    Beside w w1 v (.slice (some ⟨g, 0, none⟩) n c) := fun B2 E2 v2 ys h2 hap => by
  refine ⟨World.ownsRow.kept (h2.below hb) hg ?_, fun k hk he => ?_⟩
  · cases hv : v2.ownBlock with
    | none => exact .inl rfl
    | some q => right; intro he; exact hap q he.symm hv
  · have hk' : k = g := by simpa [Value.ownBlock] using hk.symm
    subst hk'
    rcases hat with h | h
    · exact hap k h he
    · have := (World.ownsRow.lt h2 k he).2
      omega
theorem wp_append2 {ops : Array Oper} {rest : List Oper} {o : Oper} {a : Act} {Q : Exit → Act → World → Prop} (hgd : o.guard = none) (s x : Operand) (t : TypeId)
    (ho : o.op = .call { callee := .builtin .append, args := #[s, x], argTypes := #[t, t] })
    (z : Value) (bytes : Nat) (ht : P.underlying t = some (.slice E)) (hinfo : (P.info? E).map (fun i => (i.zero, i.size, i.bytes)) = some (some z, 1, bytes)) (hzs : z.cells.size = 1)
    (hs : a.eval s = v) (hown : Own w B E v xs) (u : Value) (hu : u.oneCell' = true)
    (hx : a.eval x = .slice (some ⟨w.heap.size, 0, none⟩) 1 1) (n : Nat)
    (hl : xs.length = n) (hn : n < 4294967296) (hb16 : bytes ≤ 1024) (hB : B ≤ w.heap.size)
    (h : ∀ A c w', Own w' B E (.slice A (n + 1) c) (xs ++ [u]) → Below B w w' → w.heap.size ≤ w'.heap.size → Beside w w' v (.slice A (n + 1) c) → wpList P ops Q rest (a.put o.dst (.slice A (n + 1) c)) w') :
    wpList P ops Q (o :: rest) a (w.alloc (.cells #[u] E)) := by
  obtain ⟨i, hi, hz, hsize, hby⟩ := info_parts hinfo
  subst hl
  refine wpList_append_lies (w.alloc (.cells #[u] E)) hgd s x t ho B E i z 1 bytes ht hi hz hsize hby hzs (by decide) v xs.length xs hs (World.ownsRow.alloc hown _)
    ⟨w.heap.size, 0, none⟩ 1 1 [u] hx rfl ?_ ?_ (by decide) ?_ ?_ ?_ (w.heap.size + 1) (by simp) ?_
  · intro j q hj
    match j, hj with
    | 0, hj => simp at hj; subst hj; simp [Addr.add]
  · intro q hq; simp at hq; subst hq; exact hu
  · unfold maxLen; omega
  · calc (xs.length + 1) * bytes ≤ 4294967296 * 1024 := Nat.mul_le_mul (by omega) hb16
      _ ≤ 140737488355328 := by decide
  · simp; omega
  · intro g cap w1 hown' hgrow hat _
    have hown2 : Own w1 B E (.slice (some ⟨g, 0, none⟩) (xs.length + 1) cap) (xs ++ [u]) := by
      unfold Own; simpa using hown'
    have hbel : Below B w w1 := by
      refine ((Below.refl B w).alloc hB _).grown hgrow (by simp; omega) ?_
      intro k hk
      exact (World.ownsRow.lt hown k hk).1
    exact h _ cap w1 hown2 hbel hbel.size (beside_of ((Below.refl _ w).alloc (Nat.le_refl _) _) (by simp) (Nat.le_succ _) hgrow hat)
theorem step_append2 {ops : Array Oper} {o : Oper} {a : Act} {K : Act → World → Prop} {Q : Exit → Act → World → Prop} {R : Prop} {u : Value} (hg : o.guard = none) (s x : Operand) (t : TypeId)
    (ho : o.op = .call { callee := .builtin .append, args := #[s, x], argTypes := #[t, t] })
    (z : Value) (bytes : Nat) (ht : P.underlying t = some (.slice E)) (hinfo : (P.info? E).map (fun i => (i.zero, i.size, i.bytes)) = some (some z, 1, bytes)) (hzs : z.cells.size = 1)
    (hs : a.eval s = v) (hown : Own w B E v xs) (hu : u.oneCell' = true)
    (hx : a.eval x = .slice (some ⟨w.heap.size, 0, none⟩) 1 1) (n : Nat)
    (hl : xs.length = n) (hn : n < 4294967296) (hb16 : bytes ≤ 1024) (hB : B ≤ w.heap.size)
    (h : ∀ A c w', Own w' B E (.slice A (n + 1) c) (xs ++ [u]) → Below B w w' → w.heap.size ≤ w'.heap.size → Beside w w' v (.slice A (n + 1) c) → K (a.put o.dst (.slice A (n + 1) c)) w') :
    if Region.wanted o (yielded ops a.tmps) = true then Oper.wp P o a (w.alloc (.cells #[u] E)).drew K Q else R := by
  obtain ⟨i, hi, hz, hsize, hby⟩ := info_parts hinfo
  subst hl
  have hb1 : Below w.heap.size w (w.alloc (.cells #[u] E)).drew := ((Below.refl _ w).alloc (Nat.le_refl _) _).drew
  have hbel0 : Below B w (w.alloc (.cells #[u] E)).drew := ((Below.refl B w).alloc hB _).drew
  have hown0 : Own (w.alloc (.cells #[u] E)).drew B E v xs := hown.below hb1
  have hcell : (w.alloc (.cells #[u] E)).drew.cell? ⟨w.heap.size, 0, none⟩ = some u := by simp
  refine step_append_lies _ hg s x t ho B E i z 1 bytes ht hi hz hsize hby hzs (by decide) v xs.length xs hs hown0 ⟨w.heap.size, 0, none⟩ 1 1 [u] hx rfl ?_ ?_ (by decide) ?_ ?_ (by simp; omega) (w.heap.size + 1) (by simp) ?_
  · intro j q hj
    match j, hj with
    | 0, hj => simp only [List.getElem?_cons_zero, Option.some.injEq] at hj; subst hj; exact hcell
  · intro q hq; simp at hq; subst hq; exact hu
  · unfold maxLen; omega
  · calc (xs.length + 1) * bytes ≤ 4294967296 * 1024 := Nat.mul_le_mul (by omega) hb16
      _ ≤ 140737488355328 := by decide
  · intro g cap w1 hown' hgrow hat _
    have hown2 : Own w1 B E (.slice (some ⟨g, 0, none⟩) (xs.length + 1) cap) (xs ++ [u]) := by
      unfold Own; simpa using hown'
    have hbel : Below B w w1 := hbel0.grown hgrow (by simp; omega) (fun k hk => (World.ownsRow.lt hown k hk).1)
    exact h _ cap w1 hown2 hbel hbel.size (beside_of hb1 (by simp) (Nat.le_succ _) hgrow hat)
end
theorem ap_new {w : World} {B n c : Nat} {E : TypeId} {v : Value} {xs : List Value} (h : Own w B E v xs) : Ap v (.slice (some ⟨w.heap.size, 0, none⟩) n c) := fun g hg he => by
  have h1 := (World.ownsRow.lt h g hg).2
  have : w.heap.size = g := by simpa [Value.ownBlock] using he
  omega
theorem ap_old {w : World} {B g n c : Nat} {E : TypeId} {v : Value} {xs : List Value} (h : Own w B E v xs) (hg : g < B) : Ap (.slice (some ⟨g, 0, none⟩) n c) v := fun k hk he => by
  have h1 := (World.ownsRow.lt h k he).1
  have : g = k := by simpa [Value.ownBlock] using hk
  omega
theorem Ap.symm {v v2 : Value} (h : Ap v v2) : Ap v2 v := fun g h1 h2 => h g h2 h1
end Go.Proofs.YtbegecoocgkbiaaGreatDoor

/- Words in order, each once, the plain part: by insertion, and by a sort and a walk along it. No condition. -/
namespace Go.Proofs.YtbegecoocgkbiaaGreatDoor
open Go.RowKit
set_option linter.unusedVariables false

theorem ba_eq {a b : ByteArray} (h : L a = L b) : a = b := bytes_ext h
theorem L_strOf (s : ByteArray) : strOf (L s) = s := ba_eq (strOf_L _)
/-- In order, each once. -/
def SS (l : List ByteArray) : Prop := l.Pairwise fun a b => L a < L b
theorem ss_uniq : ∀ {l m : List ByteArray}, SS l → SS m → (∀ x, x ∈ l ↔ x ∈ m) → l = m
  | [], [], _, _, _ => rfl
  | [], b :: m, _, _, h => absurd ((h b).2 List.mem_cons_self) (by simp)
  | a :: l, [], _, _, h => absurd ((h a).1 List.mem_cons_self) (by simp)
  | a :: l, b :: m, h1, h2, h => by
    obtain ⟨ha, hl⟩ := List.pairwise_cons.1 h1
    obtain ⟨hb, hm⟩ := List.pairwise_cons.1 h2
    have hab : a = b := by
      rcases List.mem_cons.1 ((h a).1 List.mem_cons_self) with e | e
      · exact e
      · rcases List.mem_cons.1 ((h b).2 List.mem_cons_self) with e2 | e2
        · exact e2.symm
        · exact absurd (List.lt_trans (hb a e) (ha b e2)) (List.lt_irrefl _)
    subst hab
    have : l = m := ss_uniq hl hm fun x => by
      constructor
      · intro hx
        rcases List.mem_cons.1 ((h x).1 (List.mem_cons_of_mem _ hx)) with e | e
        · subst e; exact absurd (ha x hx) (List.lt_irrefl _)
        · exact e
      · intro hx
        rcases List.mem_cons.1 ((h x).2 (List.mem_cons_of_mem _ hx)) with e | e
        · subst e; exact absurd (hb x hx) (List.lt_irrefl _)
        · exact e
    rw [this]
/-- Go's '>' on strings. -/
def gtS (a b : ByteArray) : Bool := !(Op.bytesLess a.toList b.toList || a.toList == b.toList)
theorem gtS_iff (a b : ByteArray) : gtS a b = decide (L b < L a) := by
  unfold gtS
  rw [str_eq, ByteArray.toList_eq, ByteArray.toList_eq, bytesLess_eq]
  by_cases h : L b < L a
  · have h1 : ¬ L a < L b := fun k => List.lt_irrefl _ (List.lt_trans h k)
    have h2 : a ≠ b := fun e => by subst e; exact List.lt_irrefl _ h
    rw [decide_eq_true h, decide_eq_false h1, decide_eq_false h2]; rfl
  · rw [decide_eq_false h]
    by_cases h2 : a = b
    · rw [decide_eq_true h2, Bool.or_true]; rfl
    · have h1 : L a < L b := by
        rcases Classical.em (L a < L b) with k | k
        · exact k
        · exact absurd (ba_eq (List.le_antisymm h k)) h2
      rw [decide_eq_true h1]; rfl
/-- How many elements stay ahead of x, of the first k. -/
def kp (ss : List ByteArray) (x : ByteArray) : Nat → Nat
  | 0 => 0
  | k + 1 => if gtS (ss.getD k ⟨#[]⟩) x then kp ss x k else k + 1
def insB (ss : List ByteArray) (x : ByteArray) : List ByteArray :=
  if kp ss x ss.length ≠ 0 ∧ ss.getD (kp ss x ss.length - 1) ⟨#[]⟩ = x then ss else ss.take (kp ss x ss.length) ++ x :: ss.drop (kp ss x ss.length)
theorem kp_le (ss : List ByteArray) (x : ByteArray) : ∀ k, kp ss x k ≤ k
  | 0 => Nat.le_refl _
  | k + 1 => by have := kp_le ss x k; unfold kp; split <;> omega
theorem kp_gt (ss : List ByteArray) (x : ByteArray) : ∀ k j, kp ss x k ≤ j → j < k → gtS (ss.getD j ⟨#[]⟩) x = true
  | 0, j, _, h => by omega
  | k + 1, j, h1, h2 => by
    unfold kp at h1
    by_cases hg : gtS (ss.getD k ⟨#[]⟩) x = true
    · rw [if_pos hg] at h1
      by_cases hj : j = k
      · subst hj; exact hg
      · exact kp_gt ss x k j h1 (by omega)
    · rw [if_neg hg] at h1; omega
theorem kp_not (ss : List ByteArray) (x : ByteArray) : ∀ k, kp ss x k ≠ 0 → gtS (ss.getD (kp ss x k - 1) ⟨#[]⟩) x = false
  | 0, h => absurd rfl h
  | k + 1, h => by
    unfold kp at h ⊢
    by_cases hg : gtS (ss.getD k ⟨#[]⟩) x = true
    · rw [if_pos hg] at h ⊢; exact kp_not ss x k h
    · rw [if_neg hg]; simpa using hg
theorem getD_mem {ss : List ByteArray} {j : Nat} (h : j < ss.length) : ss.getD j ⟨#[]⟩ ∈ ss := by
  rw [List.getD_eq_getElem?_getD, List.getElem?_eq_getElem h]; exact List.getElem_mem h
theorem getD_get {ss : List ByteArray} {j : Nat} (h : j < ss.length) : ss.getD j ⟨#[]⟩ = ss[j] := by
  rw [List.getD_eq_getElem?_getD, List.getElem?_eq_getElem h]; rfl
theorem insB_ok {ss : List ByteArray} (x : ByteArray) (h : SS ss) : SS (insB ss x) ∧ ∀ y, y ∈ insB ss x ↔ y ∈ ss ∨ y = x := by
  unfold insB
  have hle := kp_le ss x ss.length
  have hgt := kp_gt ss x ss.length
  have hnot := kp_not ss x ss.length
  obtain ⟨k, hk⟩ : ∃ k, kp ss x ss.length = k := ⟨_, rfl⟩
  rw [hk] at hle hgt hnot ⊢
  by_cases hc : k ≠ 0 ∧ ss.getD (k - 1) ⟨#[]⟩ = x
  · rw [if_pos hc]
    refine ⟨h, fun y => ⟨.inl, fun hy => ?_⟩⟩
    rcases hy with hy | rfl
    · exact hy
    · rw [← hc.2]; exact getD_mem (by omega)
  · rw [if_neg hc]
    have hp := List.pairwise_iff_getElem.1 h
    have h1 : ∀ a ∈ ss.take k, L a < L x := fun a ha => by
      obtain ⟨j, hj, rfl⟩ := List.getElem_of_mem ha
      rw [List.length_take] at hj
      rw [List.getElem_take]
      have hk0 : k ≠ 0 := by omega
      have hlast := hnot hk0
      rw [gtS_iff, getD_get (by omega)] at hlast
      have hl2 : ¬ L x < L (ss[k - 1]'(by omega)) := of_decide_eq_false hlast
      have hne : ss[k - 1]'(by omega) ≠ x := fun e => hc ⟨hk0, by rw [getD_get (by omega)]; exact e⟩
      have hlt : L (ss[k - 1]'(by omega)) < L x := by
        rcases Classical.em (L (ss[k - 1]'(by omega)) < L x) with e | e
        · exact e
        · exact absurd (ba_eq (List.le_antisymm hl2 e)) hne
      by_cases hjk : j = k - 1
      · subst hjk; exact hlt
      · exact List.lt_trans (hp j (k - 1) (by omega) (by omega) (by omega)) hlt
    have h2 : ∀ a ∈ ss.drop k, L x < L a := fun a ha => by
      obtain ⟨j, hj, rfl⟩ := List.getElem_of_mem ha
      rw [List.length_drop] at hj
      rw [List.getElem_drop]
      have hg := hgt (k + j) (by omega) (by omega)
      rw [gtS_iff, getD_get (by omega)] at hg
      exact of_decide_eq_true hg
    refine ⟨?_, fun y => ?_⟩
    · unfold SS
      rw [List.pairwise_append, List.pairwise_cons]
      refine ⟨List.Pairwise.sublist (List.take_sublist _ _) h, ⟨h2, List.Pairwise.sublist (List.drop_sublist _ _) h⟩, fun a ha b hb => ?_⟩
      rcases List.mem_cons.1 hb with rfl | hb
      · exact h1 a ha
      · exact List.lt_trans (h1 a ha) (h2 b hb)
    · rw [List.mem_append, List.mem_cons]
      constructor
      · rintro (hy | rfl | hy)
        · exact .inl (List.mem_of_mem_take hy)
        · exact .inr rfl
        · exact .inl (List.mem_of_mem_drop hy)
      · rintro (hy | rfl)
        · rw [← List.take_append_drop k ss, List.mem_append] at hy
          rcases hy with hy | hy
          · exact .inl hy
          · exact .inr (.inr hy)
        · exact .inr (.inl rfl)
/-- The words of a list, in order, each once: by insertion. -/
def insL (l : List ByteArray) : List ByteArray := l.foldl insB []
theorem insL_ok : ∀ (l a : List ByteArray), SS a → SS (l.foldl insB a) ∧ ∀ y, y ∈ l.foldl insB a ↔ y ∈ a ∨ y ∈ l
  | [], a, h => ⟨h, fun y => by simp⟩
  | x :: l, a, h => by
    have h1 := insB_ok x h
    have h2 := insL_ok l (insB a x) h1.1
    rw [List.foldl_cons]
    refine ⟨h2.1, fun y => ?_⟩
    rw [h2.2, h1.2, List.mem_cons]
    constructor
    · rintro ((h | h) | h)
      · exact .inl h
      · exact .inr (.inl h)
      · exact .inr (.inr h)
    · rintro (h | h | h)
      · exact .inl (.inl h)
      · exact .inl (.inr h)
      · exact .inr h
theorem insL_ss (l : List ByteArray) : SS (insL l) := (insL_ok l [] List.Pairwise.nil).1
theorem insL_mem (l : List ByteArray) (y : ByteArray) : y ∈ insL l ↔ y ∈ l := by
  rw [insL, (insL_ok l [] List.Pairwise.nil).2]; simp
theorem insL_take {l : List ByteArray} {k : Nat} {x : ByteArray} (h : l[k]? = some x) : insL (l.take (k + 1)) = insB (insL (l.take k)) x := by
  rw [List.take_add_one, h]; simp [insL]
theorem insB_len (ss : List ByteArray) (x : ByteArray) : (insB ss x).length ≤ ss.length + 1 := by
  unfold insB
  have := kp_le ss x ss.length
  split
  · omega
  · simp; omega
theorem insL_len : ∀ l : List ByteArray, (insL l).length ≤ l.length := by
  suffices h : ∀ (l a : List ByteArray), (l.foldl insB a).length ≤ a.length + l.length by
    intro l; have := h l []; unfold insL; simpa using this
  intro l
  induction l with
  | nil => intro a; simp
  | cons x l ih =>
    intro a
    have h1 := ih (insB a x)
    have h2 := insB_len a x
    simp only [List.foldl_cons, List.length_cons]; omega

/-- A sorted array's elements, each once. -/
theorem comp_mem (d : Array (List UInt8)) : ∀ m x, x ∈ Lib.compactUpTo d m ↔ ∃ j, j < m ∧ d[j]! = x
  | 0, x => by simp [Lib.compactUpTo]
  | m + 1, x => by
    rw [Lib.compactUpTo_succ, List.mem_append, comp_mem d m x]
    constructor
    · rintro (⟨j, hj, h⟩ | h)
      · exact ⟨j, by omega, h⟩
      · split at h
        · exact ⟨m, by omega, (List.mem_singleton.1 h).symm⟩
        · simp at h
    · rintro ⟨j, hj, h⟩
      by_cases hjm : j = m
      · subst hjm
        by_cases hk : Lib.keeps d j = true
        · rw [if_pos hk]; exact .inr (by simp [h])
        · unfold Lib.keeps at hk
          simp only [decide_eq_true_eq, not_or, Classical.not_not] at hk
          exact .inl ⟨j - 1, by omega, by rw [← hk.2]; exact h⟩
      · exact .inl ⟨j, by omega, h⟩
theorem comp_ss (d : Array (List UInt8)) (hs : ∀ i j, i < j → j < d.size → d[i]! ≤ d[j]!) : ∀ m, m ≤ d.size → (Lib.compactUpTo d m).Pairwise (· < ·)
  | 0, _ => by simp [Lib.compactUpTo]
  | m + 1, hm => by
    rw [Lib.compactUpTo_succ, List.pairwise_append]
    refine ⟨comp_ss d hs m (by omega), by split <;> simp, fun a ha b hb => ?_⟩
    split at hb
    · rename_i hk
      have hb' : b = d[m]! := by simpa using hb
      subst hb'
      obtain ⟨j, hj, rfl⟩ := (comp_mem d m a).1 ha
      unfold Lib.keeps at hk
      have hne : d[m]! ≠ d[m - 1]! := by
        rcases of_decide_eq_true hk with h | h
        · omega
        · exact h
      have hlt : d[m - 1]! < d[m]! := by
        rcases Classical.em (d[m - 1]! < d[m]!) with e | e
        · exact e
        · exact absurd (List.le_antisymm e (hs (m - 1) m (by omega) (by omega))) hne
      by_cases hjm : j = m - 1
      · subst hjm; exact hlt
      · have h1 := hs j (m - 1) (by omega) (by omega)
        rcases Classical.em (d[j]! < d[m - 1]!) with e | e
        · exact List.lt_trans e hlt
        · have : d[j]! = d[m - 1]! := List.le_antisymm h1 e
          rw [this]; exact hlt
    · simp at hb
abbrev srt (l : List ByteArray) : List (List UInt8) := (l.map L).mergeSort fun x y => decide (x ≤ y)
/-- The words of a list, in order, each once: by a sort. -/
def ordL (l : List ByteArray) : List ByteArray := (Lib.compact (srt l)).map strOf
theorem srt_len (l : List ByteArray) : (srt l).length = l.length := by
  rw [srt, (List.mergeSort_perm _ _).length_eq, List.length_map]
theorem ord_ins (l : List ByteArray) : ordL l = insL l := by
  have htr : ∀ a b c : List UInt8, decide (a ≤ b) = true → decide (b ≤ c) = true → decide (a ≤ c) = true := fun a b c h1 h2 => decide_eq_true (List.le_trans (of_decide_eq_true h1) (of_decide_eq_true h2))
  have htt : ∀ a b : List UInt8, (decide (a ≤ b) || decide (b ≤ a)) = true := fun a b => by
    rcases List.le_total a b with h | h
    · rw [decide_eq_true h]; rfl
    · rw [decide_eq_true h, Bool.or_true]
  have hp : (srt l).Pairwise fun a b => decide (a ≤ b) = true := List.pairwise_mergeSort (le := fun x y : List UInt8 => decide (x ≤ y)) htr htt (l.map L)
  have hs : ∀ i j, i < j → j < (srt l).toArray.size → (srt l).toArray[i]! ≤ (srt l).toArray[j]! := fun i j hij hj => by
    have hj' : j < (srt l).length := by simpa using hj
    have := of_decide_eq_true (List.pairwise_iff_getElem.1 hp i j (by omega) hj' hij)
    rw [getElem!_pos _ i (by rw [List.size_toArray]; omega), getElem!_pos _ j hj]
    simpa using this
  refine ss_uniq ?_ (insL_ss l) fun x => ?_
  · unfold SS ordL
    rw [List.pairwise_map]
    have := comp_ss (srt l).toArray hs (srt l).length (by simp)
    refine List.Pairwise.imp (fun {a b} h => ?_) this
    rw [strOf_L, strOf_L]; exact h
  · rw [insL_mem, ordL, List.mem_map]
    have hm : ∀ y, y ∈ Lib.compact (srt l) ↔ y ∈ l.map L := fun y => by
      rw [Lib.compact, comp_mem, ← (List.mergeSort_perm (l.map L) fun x y => decide (x ≤ y)).mem_iff]
      constructor
      · rintro ⟨j, hj, rfl⟩
        rw [getElem!_pos _ j (by simpa using hj)]
        simp
      · intro hy
        obtain ⟨j, hj, rfl⟩ := List.getElem_of_mem hy
        exact ⟨j, hj, by rw [getElem!_pos _ j (by simpa using hj)]; simp⟩
    constructor
    · rintro ⟨y, hy, rfl⟩
      obtain ⟨z, hz, rfl⟩ := List.mem_map.1 ((hm y).1 hy)
      rw [L_strOf]; exact hz
    · intro hx
      exact ⟨L x, (hm _).2 (List.mem_map.2 ⟨x, hx, rfl⟩), L_strOf x⟩
end Go.Proofs.YtbegecoocgkbiaaGreatDoor

/- IsBinary, SwapAB, both: words of the letters a and b alone. No condition but the bounds. -/
namespace Go.Proofs.YtbegecoocgkbiaaGreatDoor
open Go.RowKit
set_option linter.unusedVariables false

theorem swW_length (l : List UInt8) : (swW l).length = l.length := by simp [swW]
theorem swW_at {l : List UInt8} {k : Nat} {b : UInt8} (h : l[k]? = some b) : (swW l).take (k + 1) = (swW l).take k ++ [swC b] := by
  rw [List.take_add_one]; simp [swW, h]
theorem bin_at {l : List UInt8} (h : binW l = true) {k : Nat} {b : UInt8} (hb : l[k]? = some b) : 97 ≤ b.toNat ∧ b.toNat ≤ 98 := by
  unfold binW at h
  simp only [Bool.and_eq_true] at h
  have h1 := isW_okc h.1 hb
  have h2 := h.2
  unfold winL at h2
  rw [List.all_eq_true] at h2
  have := h2 b (List.mem_of_getElem? hb)
  simp at this; omega
theorem bin_isW {l : List UInt8} (h : binW l = true) : isW l = true := by
  unfold binW at h; simp only [Bool.and_eq_true] at h; exact h.1
theorem swC_nat {b : UInt8} (h1 : 97 ≤ b.toNat) (h2 : b.toNat ≤ 98) : (swC b).toNat = 195 - b.toNat := by
  unfold swC
  by_cases hb : b = 97
  · rw [if_pos hb, hb]; rfl
  · rw [if_neg hb]
    have : b.toNat ≠ 97 := fun h => hb (UInt8.toNat_inj.1 h)
    show 97 = _
    omega
def swapS (s : ByteArray) : ByteArray := if binW (L s) = true then strOf (swW (L s)) else ⟨#[]⟩
end Go.Proofs.YtbegecoocgkbiaaGreatDoor

/- l05Insert, l05Factors: words in order, each once, by insertion. No condition but the bounds. -/
namespace Go.Proofs.YtbegecoocgkbiaaGreatDoor
open Go.RowKit
set_option linter.unusedVariables false

/-- The slice at block g, of capacity c, reads as the words ss. -/
def StrAt (w : World) (g c : Nat) (ss : List ByteArray) : Prop := ss.length ≤ c ∧ c ≤ maxLen ∧ g < w.heap.size ∧ ∀ j s, ss[j]? = some s → w.cell? ⟨g, j, none⟩ = some (.string s)
theorem StrAt.below {w w' : World} {g c : Nat} {ss : List ByteArray} (h : StrAt w g c ss) (hb : Below w.heap.size w w') : StrAt w' g c ss :=
  ⟨h.1, h.2.1, Nat.lt_of_lt_of_le h.2.2.1 hb.size, fun j s hs => (hb.cell (p := ⟨g, j, none⟩) h.2.2.1).trans (h.2.2.2 j s hs)⟩
theorem StrAt.rds {w : World} {g c : Nat} {ss : List ByteArray} (h : StrAt w g c ss) : Rds w w.heap.size (some ⟨g, 0, none⟩) (ss.map Value.string) := fun k u hu => by
  rw [List.getElem?_map] at hu
  cases hs : ss[k]? with
  | none => rw [hs] at hu; simp at hu
  | some s =>
    rw [hs] at hu
    refine ⟨_, rfl, h.2.2.1, ?_⟩
    have ha : (⟨g, 0, none⟩ : Addr).add k = ⟨g, k, none⟩ := by unfold Addr.add; split <;> simp_all
    rw [ha, h.2.2.2 k s hs]; simpa using hu
theorem Own.strAt {w : World} {B c : Nat} {A : Option Addr} {E : TypeId} {ss : List ByteArray} (h : Own w B E (.slice A ss.length c) (ss.map Value.string)) (h0 : ss ≠ []) : ∃ g, A = some ⟨g, 0, none⟩ ∧ StrAt w g c ss := by
  have hl : 0 < ss.length := by cases ss with | nil => exact absurd rfl h0 | cons a b => simp
  obtain ⟨g, rfl, _, hg, _, _, _⟩ := h.store (k := 0) (by rw [List.length_map]; exact hl)
  obtain ⟨A', c', hv, hc1, hc2, _⟩ := h.shape
  injection hv with e1 e2 e3
  subst e3
  rw [List.length_map] at hc1
  refine ⟨g, rfl, hc1, hc2, hg, fun j s hs => ?_⟩
  have hj := (List.getElem?_eq_some_iff.1 hs).1
  have h2 := World.ownsRow.cellAt (g := g) (n := (ss.map Value.string).length) (by
    have h3 := h
    unfold Own at h3
    rw [List.length_map] at h3 ⊢
    exact h3) j (by rw [List.length_map]; omega)
  rw [h2]; exact map_at Value.string hs
section
variable {P : Program} {w : World} {B : Nat} {E : TypeId} {v : Value} {xs : List Value}
/-- 'out = append(out, l...)'. -/
theorem wp_appendN {ops : Array Oper} {rest : List Oper} {o : Oper} {a : Act} {Q : Exit → Act → World → Prop} (hgd : o.guard = none) (s x : Operand) (t : TypeId)
    (ho : o.op = .call { callee := .builtin .append, args := #[s, x], argTypes := #[t, t] })
    (z : Value) (bytes : Nat) (ht : P.underlying t = some (.slice E)) (hinfo : (P.info? E).map (fun i => (i.zero, i.size, i.bytes)) = some (some z, 1, bytes)) (hzs : z.cells.size = 1)
    (hs : a.eval s = v) (hown : Own w B E v xs) (ys : List Value) (hu : ∀ u ∈ ys, u.oneCell' = true) (ad : Addr) (m c : Nat)
    (hx : a.eval x = .slice (some ad) m c) (hm : ys.length = m) (hys : ∀ j u, ys[j]? = some u → w.cell? (ad.add j) = some u) (n : Nat)
    (hl : xs.length = n) (hn : n + m < 4294967296) (hb16 : bytes ≤ 1024) (hB : B ≤ w.heap.size)
    (h : ∀ A c w', Own w' B E (.slice A (n + m) c) (xs ++ ys) → Below B w w' → wpList P ops Q rest (a.put o.dst (.slice A (n + m) c)) w') :
    wpList P ops Q (o :: rest) a w := by
  obtain ⟨i, hi, hz, hsize, hby⟩ := info_parts hinfo
  subst hl hm
  refine wpList_append_own w hgd s x t ho B E i z 1 bytes ht hi hz hsize hby hzs (by decide) v xs.length xs hs hown ad ys.length c ys hx (by omega) hys hu (by unfold maxLen; omega) ?_ hB ?_
  · calc (xs.length + ys.length) * bytes ≤ 4294967296 * 1024 := Nat.mul_le_mul (by omega) hb16
      _ ≤ 140737488355328 := by decide
  · intro v' w1 hown' hgrow _
    have hown2 : Own w1 B E v' (xs ++ ys) := by
      unfold Own; simpa using hown'
    have hbel : Below B w w1 := (Below.refl B w).grown hgrow hB (fun k hk => (World.ownsRow.lt hown k hk).1)
    obtain ⟨A, c', hv, _⟩ := hown2.shape
    have hl : (xs ++ ys).length = xs.length + ys.length := by simp
    rw [hl] at hv
    rw [hv]
    rw [hv] at hown2
    exact h A c' w1 hown2 hbel
end
end Go.Proofs.YtbegecoocgkbiaaGreatDoor

/- Benches and substitutions as arguments: what is read of them, what is copied. No condition. -/
namespace Go.Proofs.YtbegecoocgkbiaaGreatDoor
open Go.RowKit Go.ChangeShapes Go.WideShapes
set_option linter.unusedVariables false

theorem szS_le (ss : List ByteArray) (l : Int) (h0 : 0 ≤ l) : szS ss l ≤ l ∧ -1 ≤ szS ss l := by
  have hgo : ∀ (ss : List ByteArray) (l : Int), 0 ≤ l → szGo ss l ≤ l ∧ -1 ≤ szGo ss l := by
    intro ss
    induction ss with
    | nil => intro l h; exact ⟨Int.le_refl _, by simp only [szGo]; omega⟩
    | cons s ss ih =>
      intro l h
      simp only [szGo]
      split
      · omega
      · have := ih (l - s.size) (by omega)
        omega
  unfold szS
  split
  · omega
  · have := hgo ss (l - ss.length) (by omega)
    omega
end Go.Proofs.YtbegecoocgkbiaaGreatDoor

/- Runs of letters, the plain part: runs, their words, smooth words. No condition. -/
namespace Go.Proofs.YtbegecoocgkbiaaGreatDoor
open Go.RowKit
set_option linter.unusedVariables false

def bump (a : List Int) : List Int := a.set (a.length - 1) (a.getD (a.length - 1) 0 + 1)
def opn (a : List Int) (p : Option UInt8) (b : UInt8) : List Int := if p = some b then a else a ++ [0]
def rg (a : List Int) (p : Option UInt8) : List UInt8 → List Int
  | [] => a
  | b :: l => rg (bump (opn a p b)) (some b) l
/-- The lengths of the runs. -/
def runsOf (l : List UInt8) : List Int := rg [] none l
def lastOf (l : List UInt8) (k : Nat) : Option UInt8 := if k = 0 then none else l[k - 1]?
theorem lastOf_succ (l : List UInt8) (k : Nat) : lastOf l (k + 1) = l[k]? := by simp [lastOf]
def tot2 (a : List Int) : Int := a.foldl (· + ·) 0
/-- What holds of the runs of k letters. -/
structure RunOk (a : List Int) (k : Nat) : Prop where
  pos : ∀ x ∈ a, 1 ≤ x
  sum : a.sum = (k : Int)
theorem sum_ge : ∀ {a : List Int}, (∀ x ∈ a, 1 ≤ x) → (a.length : Int) ≤ a.sum
  | [], _ => by simp
  | x :: a, h => by
    have h1 := h x List.mem_cons_self
    have h2 := sum_ge (a := a) fun y hy => h y (List.mem_cons_of_mem _ hy)
    simp; omega
theorem mem_le : ∀ {a : List Int} {x : Int}, (∀ x ∈ a, 1 ≤ x) → x ∈ a → x + (a.length - 1 : Nat) ≤ a.sum
  | [], x, _, h => by simp at h
  | y :: a, x, h, hx => by
    have h1 := h y List.mem_cons_self
    have h2 := sum_ge (a := a) fun z hz => h z (List.mem_cons_of_mem _ hz)
    rcases List.mem_cons.1 hx with rfl | hx
    · simp; omega
    · have h3 := mem_le (a := a) (fun z hz => h z (List.mem_cons_of_mem _ hz)) hx
      have : a.length ≠ 0 := by intro h; rw [List.eq_nil_of_length_eq_zero h] at hx; simp at hx
      simp; omega
theorem bump_snoc (a : List Int) (x : Int) : bump (a ++ [x]) = a ++ [x + 1] := by
  unfold bump
  simp [List.getD_eq_getElem?_getD]
theorem RunOk.step {a : List Int} {k : Nat} {p : Option UInt8} {b : UInt8} (h : RunOk a k) (hp : p = none → a = []) (hq : p ≠ none → a ≠ []) : RunOk (bump (opn a p b)) (k + 1) ∧ bump (opn a p b) ≠ [] := by
  unfold opn
  by_cases hb : p = some b
  · rw [if_pos hb]
    have hne := hq (by rw [hb]; exact fun h => by cases h)
    obtain ⟨a', x, rfl⟩ : ∃ a' x, a = a' ++ [x] := ⟨a.dropLast, a.getLast hne, (List.dropLast_concat_getLast hne).symm⟩
    rw [bump_snoc]
    refine ⟨⟨fun y hy => ?_, ?_⟩, by simp⟩
    · rcases List.mem_append.1 hy with hy | hy
      · exact h.pos y (List.mem_append_left _ hy)
      · have := h.pos x (List.mem_append_right _ (by simp))
        simp at hy; omega
    · have := h.sum
      simp at this ⊢; omega
  · rw [if_neg hb, bump_snoc]
    refine ⟨⟨fun y hy => ?_, ?_⟩, by simp⟩
    · rcases List.mem_append.1 hy with hy | hy
      · exact h.pos y hy
      · simp at hy; omega
    · have := h.sum
      simp at this ⊢; omega
theorem rg_ok : ∀ (l : List UInt8) (a : List Int) (p : Option UInt8) (k : Nat), RunOk a k → (p = none → a = []) → (p ≠ none → a ≠ []) → RunOk (rg a p l) (k + l.length) ∧ (rg a p l = [] → l = [])
  | [], a, p, k, h, _, _ => ⟨h, fun _ => rfl⟩
  | b :: l, a, p, k, h, h1, h2 => by
    have hs := h.step (b := b) h1 h2
    have := rg_ok l (bump (opn a p b)) (some b) (k + 1) hs.1 (fun h => by cases h) (fun _ => hs.2)
    rw [rg]
    refine ⟨?_, fun hn => ?_⟩
    · have h3 := this.1
      rw [List.length_cons, show k + (l.length + 1) = k + 1 + l.length from by omega]
      exact h3
    · have h3 := this.2 hn
      subst h3
      rw [rg] at hn
      exact absurd hn hs.2
theorem runs_ok (l : List UInt8) : RunOk (runsOf l) l.length := by
  have := (rg_ok l [] none 0 ⟨by simp, rfl⟩ (fun _ => rfl) (fun h => absurd rfl h)).1
  rwa [Nat.zero_add] at this
theorem runs_len (l : List UInt8) : (runsOf l).length ≤ l.length := by
  have h := runs_ok l
  have := sum_ge h.pos
  rw [h.sum] at this; omega
theorem runs_mem (l : List UInt8) {x : Int} (hx : x ∈ runsOf l) : 1 ≤ x ∧ x + ((runsOf l).length - 1 : Nat) ≤ l.length := by
  have h := runs_ok l
  have := mem_le h.pos hx
  rw [h.sum] at this
  exact ⟨h.pos x hx, this⟩

def lw (v : Int) : UInt8 := if v = 1 then 97 else 98
def small (r : List Int) : Bool := r.all fun x => decide (x ≤ 2)
def cut1 (r : List Int) : List Int := if r.getD (r.length - 1) 0 = 1 then r.take (r.length - 1) else r
def cut2 (r : List Int) : List Int := if r.getD 0 0 = 1 then r.drop 1 else r
/-- The runs without the first and the last one, where these are of one letter. -/
def strip (r : List Int) : List Int := if r.length < 2 then r else cut2 (cut1 r)
theorem small_append (a b : List Int) : small (a ++ b) = (small a && small b) := by simp [small]
theorem cut1_eq (r : List Int) (h : r ≠ []) : ∃ a, r = cut1 r ++ a ∧ (a = [] ∨ a = [1]) := by
  obtain ⟨r', x, rfl⟩ : ∃ a' x, r = a' ++ [x] := ⟨r.dropLast, r.getLast h, (List.dropLast_concat_getLast h).symm⟩
  unfold cut1
  by_cases hx : x = 1
  · subst hx
    exact ⟨[1], by simp [List.getD_eq_getElem?_getD], .inr rfl⟩
  · exact ⟨[], by simp [List.getD_eq_getElem?_getD, hx], .inl rfl⟩
theorem cut2_eq (r : List Int) : ∃ a, r = a ++ cut2 r ∧ (a = [] ∨ a = [1]) := by
  cases r with
  | nil => exact ⟨[], rfl, .inl rfl⟩
  | cons x r =>
    unfold cut2
    by_cases hx : x = 1
    · subst hx; exact ⟨[1], rfl, .inr rfl⟩
    · exact ⟨[], by simp [hx], .inl rfl⟩
theorem strip_eq (r : List Int) : ∃ a b, r = a ++ strip r ++ b ∧ (a = [] ∨ a = [1]) ∧ (b = [] ∨ b = [1]) := by
  unfold strip
  by_cases h : r.length < 2
  · rw [if_pos h]; exact ⟨[], [], by simp, .inl rfl, .inl rfl⟩
  · rw [if_neg h]
    obtain ⟨b, hb, hb2⟩ := cut1_eq r (by intro h0; rw [h0] at h; simp at h)
    obtain ⟨a, ha, ha2⟩ := cut2_eq (cut1 r)
    exact ⟨a, b, by rw [← ha]; exact hb, ha2, hb2⟩
theorem strip_small (r : List Int) : small (strip r) = small r := by
  obtain ⟨a, b, h, ha, hb⟩ := strip_eq r
  have h1 : small a = true := by rcases ha with rfl | rfl <;> rfl
  have h2 : small b = true := by rcases hb with rfl | rfl <;> rfl
  conv => rhs; rw [h]
  rw [small_append, small_append, h1, h2]; simp
theorem strip_mem {r : List Int} {x : Int} (h : x ∈ strip r) : x ∈ r := by
  obtain ⟨a, b, he, _, _⟩ := strip_eq r
  rw [he]; simp [h]
theorem strip_len (r : List Int) : (strip r).length ≤ r.length := by
  obtain ⟨a, b, he, _, _⟩ := strip_eq r
  have := congrArg List.length he
  simp at this; omega
/-- A word of two letters or more becomes shorter. -/
theorem strip_short (l : List UInt8) (h : 2 ≤ l.length) : (strip (runsOf l)).length < l.length := by
  have h1 := runs_len l
  have h2 := strip_len (runsOf l)
  by_cases he : (runsOf l).length = l.length
  · have hone : ∀ x ∈ runsOf l, x = 1 := fun x hx => by
      have := runs_mem l hx
      omega
    have hd : ∀ (r : List Int), (∀ x ∈ r, x = 1) → 2 ≤ r.length → (strip r).length < r.length := fun r hr hl => by
      have hg : ∀ k, k < r.length → r.getD k 0 = 1 := fun k hk => by
        rw [List.getD_eq_getElem?_getD, List.getElem?_eq_getElem hk]
        exact hr _ (List.getElem_mem hk)
      have hc : cut1 r = r.take (r.length - 1) := by rw [cut1, if_pos (hg _ (by omega))]
      obtain ⟨a, ha, _⟩ := cut2_eq (cut1 r)
      have := congrArg List.length ha
      rw [strip, if_neg (by omega)]
      rw [List.length_append, hc, List.length_take] at this
      rw [hc]; omega
    have := hd _ hone (by omega)
    omega
  · omega
/-- The word of the inner runs. -/
def inW (l : List UInt8) : List UInt8 := (strip (runsOf l)).map lw
def inB (l : List UInt8) : Bool := small (runsOf l)
theorem inW_short (l : List UInt8) (h : 2 ≤ l.length) : (inW l).length < l.length := by
  rw [inW, List.length_map]; exact strip_short l h
def smo : Nat → List UInt8 → Bool
  | 0, _ => true
  | f + 1, l => if l.length < 2 then true else if inB l then smo f (inW l) else false
theorem smo_fuel : ∀ (f g : Nat) (l : List UInt8), l.length ≤ f → l.length ≤ g → smo f l = smo g l
  | 0, 0, l, _, _ => rfl
  | 0, g + 1, l, h, _ => by rw [smo, smo, if_pos (by omega)]
  | f + 1, 0, l, _, h => by rw [smo, smo, if_pos (by omega)]
  | f + 1, g + 1, l, h1, h2 => by
    rw [smo, smo]
    by_cases h : l.length < 2
    · rw [if_pos h, if_pos h]
    · rw [if_neg h, if_neg h]
      have := inW_short l (by omega)
      rw [smo_fuel f g (inW l) (by omega) (by omega)]
def smoothL (l : List UInt8) : Bool := smo l.length l
theorem smooth_le {l : List UInt8} (h : l.length < 2) : smoothL l = true := by
  unfold smoothL
  cases hl : l.length with
  | zero => rfl
  | succ n => rw [smo, if_pos h]
theorem smooth_step {l : List UInt8} (h : ¬ l.length < 2) : smoothL l = (inB l && smoothL (inW l)) := by
  unfold smoothL
  obtain ⟨n, hn⟩ : ∃ n, l.length = n + 1 := ⟨l.length - 1, by omega⟩
  have hs := inW_short l (by omega)
  rw [hn, smo, if_neg h, smo_fuel n (inW l).length (inW l) (by omega) (Nat.le_refl _)]
  cases inB l <;> rfl
theorem inW_word (l : List UInt8) (h : l.length ≤ 400) : isW (inW l) = true := by
  have h1 := strip_len (runsOf l)
  have h2 := runs_len l
  unfold isW
  simp only [Bool.and_eq_true, decide_eq_true_eq, List.all_eq_true]
  refine ⟨fun b hb => ?_, by rw [inW, List.length_map]; omega⟩
  obtain ⟨v, _, rfl⟩ := List.mem_map.1 hb
  unfold lw; split <;> rfl
def smoothS (s : ByteArray) : Bool := binW (L s) && smoothL (L s)
end Go.Proofs.YtbegecoocgkbiaaGreatDoor

/- One append, beside rows of words in other blocks; where a word stands in an ordered list. No condition but the bounds. -/
namespace Go.Proofs.YtbegecoocgkbiaaGreatDoor
open Go.RowKit
set_option linter.unusedVariables false

section
variable {P : Program} {w : World} {B : Nat} {E : TypeId} {xs : List Value} {go : Nat}
/-- Rows of words in blocks other than g stay, and lie in blocks other than g'. -/
def Stay (w w' : World) (g g' : Nat) : Prop := ∀ q c ss, StrAt w q c ss → q ≠ g → StrAt w' q c ss ∧ q ≠ g'
theorem wp_append3 {ops : Array Oper} {rest : List Oper} {o : Oper} {a : Act} {Q : Exit → Act → World → Prop} (hgd : o.guard = none) (s x : Operand) (t : TypeId)
    (ho : o.op = .call { callee := .builtin .append, args := #[s, x], argTypes := #[t, t] })
    (z : Value) (bytes : Nat) (ht : P.underlying t = some (.slice E)) (hinfo : (P.info? E).map (fun i => (i.zero, i.size, i.bytes)) = some (some z, 1, bytes)) (hzs : z.cells.size = 1)
    (m c : Nat) (hs : a.eval s = .slice (some ⟨go, 0, none⟩) m c) (hown : Own w B E (.slice (some ⟨go, 0, none⟩) m c) xs) (u : Value) (hu : u.oneCell' = true)
    (hx : a.eval x = .slice (some ⟨w.heap.size, 0, none⟩) 1 1)
    (hl : xs.length = m) (hn : m < 4294967296) (hb16 : bytes ≤ 1024) (hB : B ≤ w.heap.size)
    (h : ∀ g c w', Own w' B E (.slice (some ⟨g, 0, none⟩) (m + 1) c) (xs ++ [u]) → Below B w w' → w.heap.size ≤ w'.heap.size → Stay w w' go g → wpList P ops Q rest (a.put o.dst (.slice (some ⟨g, 0, none⟩) (m + 1) c)) w') :
    wpList P ops Q (o :: rest) a (w.alloc (.cells #[u] E)) := by
  obtain ⟨i, hi, hz, hsize, hby⟩ := info_parts hinfo
  subst hl
  refine wpList_append_lies (w.alloc (.cells #[u] E)) hgd s x t ho B E i z 1 bytes ht hi hz hsize hby hzs (by decide) _ xs.length xs hs (World.ownsRow.alloc hown _)
    ⟨w.heap.size, 0, none⟩ 1 1 [u] hx rfl ?_ ?_ (by decide) ?_ ?_ ?_ (w.heap.size + 1) (by simp) ?_
  · intro j q hj
    match j, hj with
    | 0, hj => simp at hj; subst hj; simp [Addr.add]
  · intro q hq; simp at hq; subst hq; exact hu
  · unfold maxLen; omega
  · calc (xs.length + 1) * bytes ≤ 4294967296 * 1024 := Nat.mul_le_mul (by omega) hb16
      _ ≤ 140737488355328 := by decide
  · simp; omega
  · intro g cap w1 hown' hgrow hat hgl
    have hown2 : Own w1 B E (.slice (some ⟨g, 0, none⟩) (xs.length + 1) cap) (xs ++ [u]) := by
      unfold Own; simpa using hown'
    have hbel : Below B w w1 := by
      refine ((Below.refl B w).alloc hB _).grown hgrow (by simp; omega) ?_
      intro k hk
      exact (World.ownsRow.lt hown k hk).1
    have hst : Stay w w1 go g := fun q c' ss hq hne => by
      have hq1 := hq.below ((Below.refl w.heap.size w).alloc (Nat.le_refl _) (.cells #[u] E))
      have hgo : (Value.slice (some ⟨go, 0, none⟩) xs.length c).ownBlock = some go := rfl
      rw [hgo] at hgrow hat
      refine ⟨⟨hq.1, hq.2.1, by have := hq.2.2.1; have := hbel.size; omega, fun j s hs => ?_⟩, fun hqe => ?_⟩
      · exact hgrow.cell (hq1.2.2.2 j s hs) (by simpa using hne)
      · rcases hat with h1 | h1
        · injection h1 with h1; omega
        · have := hq.2.2.1; omega
    exact h g cap w1 hown2 hbel hbel.size hst
theorem step_append3 {ops : Array Oper} {o : Oper} {a : Act} {K : Act → World → Prop} {Q : Exit → Act → World → Prop} {R : Prop} {u : Value} (hg : o.guard = none) (s x : Operand) (t : TypeId)
    (ho : o.op = .call { callee := .builtin .append, args := #[s, x], argTypes := #[t, t] })
    (z : Value) (bytes : Nat) (ht : P.underlying t = some (.slice E)) (hinfo : (P.info? E).map (fun i => (i.zero, i.size, i.bytes)) = some (some z, 1, bytes)) (hzs : z.cells.size = 1)
    (m c : Nat) (hs : a.eval s = .slice (some ⟨go, 0, none⟩) m c) (hown : Own w B E (.slice (some ⟨go, 0, none⟩) m c) xs) (hu : u.oneCell' = true)
    (hx : a.eval x = .slice (some ⟨w.heap.size, 0, none⟩) 1 1)
    (hl : xs.length = m) (hn : m < 4294967296) (hb16 : bytes ≤ 1024) (hB : B ≤ w.heap.size)
    (h : ∀ g c w', Own w' B E (.slice (some ⟨g, 0, none⟩) (m + 1) c) (xs ++ [u]) → Below B w w' → w.heap.size ≤ w'.heap.size → Stay w w' go g → K (a.put o.dst (.slice (some ⟨g, 0, none⟩) (m + 1) c)) w') :
    if Region.wanted o (yielded ops a.tmps) = true then Oper.wp P o a (w.alloc (.cells #[u] E)).drew K Q else R := by
  obtain ⟨i, hi, hz, hsize, hby⟩ := info_parts hinfo
  subst hl
  have hb1 : Below w.heap.size w (w.alloc (.cells #[u] E)).drew := ((Below.refl _ w).alloc (Nat.le_refl _) _).drew
  have hbel0 : Below B w (w.alloc (.cells #[u] E)).drew := ((Below.refl B w).alloc hB _).drew
  have hown0 : Own (w.alloc (.cells #[u] E)).drew B E (.slice (some ⟨go, 0, none⟩) xs.length c) xs := hown.below hb1
  have hcell : (w.alloc (.cells #[u] E)).drew.cell? ⟨w.heap.size, 0, none⟩ = some u := by simp
  refine step_append_lies _ hg s x t ho B E i z 1 bytes ht hi hz hsize hby hzs (by decide) _ xs.length xs hs hown0 ⟨w.heap.size, 0, none⟩ 1 1 [u] hx rfl ?_ ?_ (by decide) ?_ ?_ (by simp; omega) (w.heap.size + 1) (by simp) ?_
  · intro j q hj
    match j, hj with
    | 0, hj => simp only [List.getElem?_cons_zero, Option.some.injEq] at hj; subst hj; exact hcell
  · intro q hq; simp at hq; subst hq; exact hu
  · unfold maxLen; omega
  · calc (xs.length + 1) * bytes ≤ 4294967296 * 1024 := Nat.mul_le_mul (by omega) hb16
      _ ≤ 140737488355328 := by decide
  · intro g cap w1 hown' hgrow hat hgl
    have hown2 : Own w1 B E (.slice (some ⟨g, 0, none⟩) (xs.length + 1) cap) (xs ++ [u]) := by
      unfold Own; simpa using hown'
    have hbel : Below B w w1 := hbel0.grown hgrow (by simp; omega) (fun k hk => (World.ownsRow.lt hown k hk).1)
    have hst : Stay w w1 go g := fun q c' ss hq hne => by
      have hq1 := hq.below hb1
      have hgo : (Value.slice (some ⟨go, 0, none⟩) xs.length c).ownBlock = some go := rfl
      rw [hgo] at hgrow hat
      refine ⟨⟨hq.1, hq.2.1, by have := hq.2.2.1; have := hbel.size; omega, fun j s hs => ?_⟩, fun hqe => ?_⟩
      · exact hgrow.cell (hq1.2.2.2 j s hs) (by simpa using hne)
      · rcases hat with h1 | h1
        · injection h1 with h1; omega
        · have := hq.2.2.1; omega
    exact h g cap w1 hown2 hbel hbel.size hst
end
theorem ixGo_mem (x : ByteArray) : ∀ (r : List ByteArray) (i : Int), 0 ≤ i → (0 ≤ ixGo x r i ↔ x ∈ r)
  | [], i, h => by simp [ixGo]
  | y :: r, i, h => by
    unfold ixGo
    by_cases hx : x = y
    · rw [if_pos hx]; subst hx; simp [h]
    · rw [if_neg hx, ixGo_mem x r (i + 1) (by omega)]; simp [hx]
theorem hasS_mem (ss : List ByteArray) (x : ByteArray) : hasS ss x = true ↔ x ∈ ss := by
  unfold hasS; rw [decide_eq_true_eq]; exact ixGo_mem x ss 0 (Int.le_refl _)
theorem ss_lt {ss : List ByteArray} (h : SS ss) {i j : Nat} {a b : ByteArray} (hi : ss[i]? = some a) (hj : ss[j]? = some b) (hij : i < j) : L a < L b := by
  obtain ⟨h1, rfl⟩ := List.getElem?_eq_some_iff.1 hi
  obtain ⟨h2, rfl⟩ := List.getElem?_eq_some_iff.1 hj
  exact List.pairwise_iff_getElem.1 h i j h1 h2 hij
/-- Where the halving ends, x stands or it stands nowhere. -/
theorem ss_found {ss : List ByteArray} (h : SS ss) {x : ByteArray} {k : Nat} (h1 : ∀ j a, j < k → ss[j]? = some a → L a < L x) (h2 : ∀ j a, k ≤ j → ss[j]? = some a → ¬ L a < L x) : x ∈ ss ↔ ss[k]? = some x := by
  constructor
  · intro hx
    obtain ⟨j, hj, hjx⟩ := List.getElem_of_mem hx
    have hj' : ss[j]? = some x := by rw [List.getElem?_eq_getElem hj, hjx]
    rcases Nat.lt_trichotomy j k with h3 | h3 | h3
    · exact absurd (h1 j x h3 hj') (List.lt_irrefl _)
    · subst h3; exact hj'
    · obtain ⟨a, ha⟩ := some_of_lt (l := ss) (k := k) (by omega)
      exact absurd (ss_lt h ha hj' h3) (h2 k a (Nat.le_refl _) ha)
  · intro hx; exact List.mem_of_getElem? hx
end Go.Proofs.YtbegecoocgkbiaaGreatDoor

/- l05Factors: the factors of a word, in order, each once, by insertion. No condition but the bounds. -/
namespace Go.Proofs.YtbegecoocgkbiaaGreatDoor
open Go.RowKit
set_option linter.unusedVariables false

def fcT (s : ByteArray) (n k : Nat) : List ByteArray := (List.range k).map fun i => s.extract i (i + n)
/-- The factors of n letters, one after the other. -/
def fc (s : ByteArray) (n : Nat) : List ByteArray := fcT s n (s.size + 1 - n)
theorem fcT_len (s : ByteArray) (n k : Nat) : (fcT s n k).length = k := by simp [fcT]
theorem fcT_succ (s : ByteArray) (n k : Nat) : fcT s n (k + 1) = fcT s n k ++ [s.extract k (k + n)] := by
  unfold fcT; rw [List.range_succ, List.map_append]; rfl
theorem insL_snoc (l : List ByteArray) (x : ByteArray) : insL (l ++ [x]) = insB (insL l) x := by simp [insL]
theorem fcT_size {s : ByteArray} {n k : Nat} {x : ByteArray} (h : x ∈ fcT s n k) : x.size ≤ s.size := by
  unfold fcT at h
  obtain ⟨i, _, rfl⟩ := List.mem_map.1 h
  rw [ByteArray.size_extract]; omega
end Go.Proofs.YtbegecoocgkbiaaGreatDoor

/- One append onto a slice of the call's own, in full: what else is the call's own stays; what the elder slice reads as stays. No condition. -/
namespace Go.Proofs.YtbegecoocgkbiaaGreatDoor
open Go.RowKit
set_option linter.unusedVariables false

section
variable {P : Program} {w : World} {B : Nat} {E : TypeId} {xs : List Value} {go : Nat}
/-- The cells of block go from offset m on may turn, nothing else that lay there. -/
def Kept (w w' : World) (go m : Nat) : Prop := ∀ q k, q < w.heap.size → (q ≠ go ∨ k < m) → w'.cell? ⟨q, k, none⟩ = w.cell? ⟨q, k, none⟩
theorem Kept.str {w w' : World} {go m : Nat} (h : Kept w w' go m) (hs : w.heap.size ≤ w'.heap.size) {q c : Nat} {ss : List ByteArray} (hq : StrAt w q c ss) (hm : q ≠ go ∨ ss.length ≤ m) : StrAt w' q c ss :=
  ⟨hq.1, hq.2.1, Nat.lt_of_lt_of_le hq.2.2.1 hs, fun j s hj => by
    rw [h q j hq.2.2.1 (hm.imp id fun h2 => by have := (List.getElem?_eq_some_iff.1 hj).1; omega)]; exact hq.2.2.2 j s hj⟩
theorem Own.str {w : World} {B g m c : Nat} {E : TypeId} {ss : List ByteArray} (h : Own w B E (.slice (some ⟨g, 0, none⟩) m c) (ss.map Value.string)) (hm : ss.length = m) : StrAt w g c ss := by
  subst hm
  have hl : (ss.map Value.string).length = ss.length := List.length_map ..
  obtain ⟨_, _, hv, h1, h2, _⟩ := h.shape
  injection hv with e1 e2 e3
  subst e3
  refine ⟨by omega, h2, (World.ownsRow.lt h g rfl).2, fun j s hj => ?_⟩
  have h0 : w.ownsRow B E 1 (.slice (some ⟨g, 0, none⟩) ss.length c) ss.length (ss.map Value.string) := by
    have := h; unfold Own at this; rwa [hl] at this
  have hjl := (List.getElem?_eq_some_iff.1 hj).1
  rw [World.ownsRow.cellAt h0 j (by omega)]
  exact map_at Value.string hj
theorem run_append4 (t ty : TypeId) (i : TypeInfo) (z : Value) (bytes : Nat) (ht : P.underlying t = some (.slice E)) (hi : P.info? E = some i) (hz : i.zero = some z)
    (hsize : i.size = 1) (hby : i.bytes = bytes) (hzs : z.cells.size = 1) (m c : Nat) (hown : Own w B E (.slice (some ⟨go, 0, none⟩) m c) xs) (hlen : xs.length = m)
    (ad : Addr) (k c2 : Nat) (news : List Value) (hl : news.length = k) (hnews : ∀ j u, news[j]? = some u → w.cell? (ad.add j) = some u) (h1 : ∀ u ∈ news, u.oneCell' = true)
    (hk : 0 < k) (h63 : m + k ≤ maxLen) (hbytes : (m + k) * bytes ≤ 140737488355328) (hbase : B ≤ w.heap.size) :
    ∃ g cap w', (Builtin.append_ #[t, t] ty #[.slice (some ⟨go, 0, none⟩) m c, .slice (some ad) k c2]).run P w = .ok (.slice (some ⟨g, 0, none⟩) (m + k) cap) w' ∧
      Own w' B E (.slice (some ⟨g, 0, none⟩) (m + k) cap) (xs ++ news) ∧ w.grownBy w' (some go) ∧ (go = g ∨ g = w.heap.size) ∧ Kept w w' go m := by
  have hown0 : w.ownsRow B E 1 (.slice (some ⟨go, 0, none⟩) m c) m xs := by subst hlen; exact hown
  obtain ⟨g, cap, w', hr, h2, h3, h4, h5⟩ := run_append_lies (P := P) w t ty B E i z 1 bytes ht hi hz hsize hby hzs (by decide) _ m xs hown0 ad k c2 news (by rw [Nat.mul_one]; exact hl) hnews h1 hk h63 hbytes hbase _ rfl
  have hgl : go < w.heap.size := (World.ownsRow.lt hown go rfl).2
  have h4' : go = g ∨ g = w.heap.size := h4.imp (fun e => by simpa [Value.ownBlock] using e) id
  have hnl : (xs ++ news).length = m + k := by rw [List.length_append, hlen, hl]
  refine ⟨g, cap, w', hr, by unfold Own; rw [hnl]; exact h2, h3, h4', fun q j hq hd => ?_⟩
  by_cases hqe : q = go
  · subst hqe
    have hj : j < m := by rcases hd with h | h; exact absurd rfl h; exact h
    rcases h4' with e | e
    · subst e
      have e1 := World.ownsRow.cellAt h2 j (by omega)
      have e2 := World.ownsRow.cellAt hown0 j (by omega)
      rw [e1, e2, List.getElem?_append_left (by omega)]
    · by_cases hroom : m + k ≤ c
      · obtain ⟨w2, hr2, _⟩ := run_append_fits (P := P) w B t ty E i 1 ht hi hsize q m c xs hown0 ad k c2 news (by rw [Nat.mul_one]; exact hl) hnews h1 hroom
        rw [hr] at hr2
        injection hr2 with e1 e2
        injection e1 with e1 _ _
        injection e1 with e1
        injection e1 with e1
        omega
      · have hb2 : Builtin.nextslicecap (m + k) c * i.bytes ≤ 281474976710656 := growslice_fits (by omega) (by rw [hby]; exact hbytes)
        have hr2 := run_append_grow (P := P) w t ty E i z ht hi hz ⟨q, 0, none⟩ m c xs (by rw [hsize, Nat.mul_one]; exact hlen) (fun a v hv => World.ownsRow.cells hown0 (g := q) rfl a v hv) ad k c2 news (by rw [hsize, Nat.mul_one]; exact hl) hnews (by omega) (by simp only [maxLen] at h63; omega) hb2
        rw [hr] at hr2
        injection hr2 with e1 e2
        rw [e2]
        exact (((Below.refl w.heap.size w).drew).alloc (by simp) _).cell (p := ⟨q, j, none⟩) hgl
  · exact h3.cell_far ⟨q, j, none⟩ hq (by simpa [Value.ownBlock] using hqe)
/-- All that is known of the world and the slice behind 'out = append(out, news..)'. -/
structure App4 (w w' : World) (B : Nat) (E : TypeId) (go m c : Nat) (g n cap : Nat) (ys : List Value) : Prop where
  own : Own w' B E (.slice (some ⟨g, 0, none⟩) n cap) ys
  bel : Below B w w'
  size : w.heap.size ≤ w'.heap.size
  kept : Kept w w' go m
  where_ : go = g ∨ w.heap.size ≤ g
  far : ∀ q, q < w.heap.size → q ≠ go → q ≠ g
  blk : ∀ q, q < w.heap.size → q ≠ go → w'.heap[q]? = w.heap[q]?
  beside : Beside w w' (.slice (some ⟨go, 0, none⟩) m c) (.slice (some ⟨g, 0, none⟩) n cap)
theorem App4.of {w0 w1 : World} {g n cap m c : Nat} {ys : List Value} (hb : Below w.heap.size w w0) (hB : B ≤ w.heap.size) (hgB : B ≤ go) (hgo : go < w.heap.size)
    (hown : Own w1 B E (.slice (some ⟨g, 0, none⟩) n cap) ys) (hg : w0.grownBy w1 (some go)) (hat : go = g ∨ g = w0.heap.size) (hk : Kept w0 w1 go m) : App4 w w1 B E go m c g n cap ys where
  own := hown
  bel := (hb.mono hB).grown hg (Nat.le_trans hB hb.size) (fun k h => by injection h with h; omega)
  size := Nat.le_trans hb.size hg.size
  kept := fun q j hq hd => (hk q j (Nat.lt_of_lt_of_le hq hb.size) hd).trans (hb.cell (p := ⟨q, j, none⟩) hq)
  where_ := hat.imp id fun h => by have := hb.size; omega
  far := fun q hq hne he => by
    rcases hat with h | h
    · exact hne (by omega)
    · have := hb.size; omega
  blk := fun q hq hne => (hg.block q (Nat.lt_of_lt_of_le hq hb.size) (fun e => hne (by simpa using e))).trans (hb.block q hq)
  beside := beside_of hb rfl hb.size hg (hat.imp (fun h => by rw [h]; rfl) id)
theorem wp_append4 {ops : Array Oper} {rest : List Oper} {o : Oper} {a : Act} {Q : Exit → Act → World → Prop} (hgd : o.guard = none) (s x : Operand) (t : TypeId)
    (ho : o.op = .call { callee := .builtin .append, args := #[s, x], argTypes := #[t, t] })
    (z : Value) (bytes : Nat) (ht : P.underlying t = some (.slice E)) (hinfo : (P.info? E).map (fun i => (i.zero, i.size, i.bytes)) = some (some z, 1, bytes)) (hzs : z.cells.size = 1)
    (m c : Nat) (hs : a.eval s = .slice (some ⟨go, 0, none⟩) m c) (hown : Own w B E (.slice (some ⟨go, 0, none⟩) m c) xs) (u : Value) (hu : u.oneCell' = true)
    (hx : a.eval x = .slice (some ⟨w.heap.size, 0, none⟩) 1 1)
    (hl : xs.length = m) (hn : m < 4294967296) (hb16 : bytes ≤ 1024) (hB : B ≤ w.heap.size)
    (h : ∀ g cap w', App4 w w' B E go m c g (m + 1) cap (xs ++ [u]) → wpList P ops Q rest (a.put o.dst (.slice (some ⟨g, 0, none⟩) (m + 1) cap)) w') :
    wpList P ops Q (o :: rest) a (w.alloc (.cells #[u] E)) := by
  obtain ⟨i, hi, hz, hsize, hby⟩ := info_parts hinfo
  have hgo := World.ownsRow.lt hown go rfl
  refine wpList_plain hgd fun K hK => ?_
  obtain ⟨g, cap, w1, hr, h2, h3, h4, h5⟩ := run_append4 (P := P) (w := w.alloc (.cells #[u] E)) (B := B) t o.type i z bytes ht hi hz hsize hby hzs m c (World.ownsRow.alloc hown _) hl
    ⟨w.heap.size, 0, none⟩ 1 1 [u] rfl (fun j q hj => by match j, hj with | 0, hj => simp at hj; subst hj; simp [Addr.add]) (fun q hq => by simp at hq; subst hq; exact hu) (by decide) (by unfold maxLen; omega)
    (calc (m + 1) * bytes ≤ 4294967296 * 1024 := Nat.mul_le_mul (by omega) hb16
      _ ≤ 140737488355328 := by decide) (by simp; omega)
  unfold Oper.wp execOp
  simp only [ho, resolve, invoke, builtin, Sem.run_bind, Sem.run_pure, Result.andThen_ok, List.map_toArray, List.map_cons, List.map_nil, hs, hx, hr]
  exact hK _ _ (h g cap w1 (App4.of ((Below.refl _ w).alloc (Nat.le_refl _) _) hB hgo.1 hgo.2 h2 h3 h4 h5))
theorem step_append4 {ops : Array Oper} {o : Oper} {a : Act} {K : Act → World → Prop} {Q : Exit → Act → World → Prop} {R : Prop} {u : Value} (hg : o.guard = none) (s x : Operand) (t : TypeId)
    (ho : o.op = .call { callee := .builtin .append, args := #[s, x], argTypes := #[t, t] })
    (z : Value) (bytes : Nat) (ht : P.underlying t = some (.slice E)) (hinfo : (P.info? E).map (fun i => (i.zero, i.size, i.bytes)) = some (some z, 1, bytes)) (hzs : z.cells.size = 1)
    (m c : Nat) (hs : a.eval s = .slice (some ⟨go, 0, none⟩) m c) (hown : Own w B E (.slice (some ⟨go, 0, none⟩) m c) xs) (hu : u.oneCell' = true)
    (hx : a.eval x = .slice (some ⟨w.heap.size, 0, none⟩) 1 1)
    (hl : xs.length = m) (hn : m < 4294967296) (hb16 : bytes ≤ 1024) (hB : B ≤ w.heap.size)
    (h : ∀ g cap w', App4 w w' B E go m c g (m + 1) cap (xs ++ [u]) → K (a.put o.dst (.slice (some ⟨g, 0, none⟩) (m + 1) cap)) w') :
    if Region.wanted o (yielded ops a.tmps) = true then Oper.wp P o a (w.alloc (.cells #[u] E)).drew K Q else R := by
  obtain ⟨i, hi, hz, hsize, hby⟩ := info_parts hinfo
  have hgo := World.ownsRow.lt hown go rfl
  have hb1 : Below w.heap.size w (w.alloc (.cells #[u] E)).drew := ((Below.refl _ w).alloc (Nat.le_refl _) _).drew
  have hcell : (w.alloc (.cells #[u] E)).drew.cell? ⟨w.heap.size, 0, none⟩ = some u := by simp
  have hw : Region.wanted o (yielded ops a.tmps) = true := by simp [Region.wanted, hg]
  rw [if_pos hw]
  obtain ⟨g, cap, w1, hr, h2, h3, h4, h5⟩ := run_append4 (P := P) (w := (w.alloc (.cells #[u] E)).drew) (B := B) t o.type i z bytes ht hi hz hsize hby hzs m c (Own.below hown hb1) hl
    ⟨w.heap.size, 0, none⟩ 1 1 [u] rfl (fun j q hj => by match j, hj with | 0, hj => simp only [List.getElem?_cons_zero, Option.some.injEq] at hj; subst hj; exact hcell) (fun q hq => by simp at hq; subst hq; exact hu) (by decide) (by unfold maxLen; omega)
    (calc (m + 1) * bytes ≤ 4294967296 * 1024 := Nat.mul_le_mul (by omega) hb16
      _ ≤ 140737488355328 := by decide) (by simp; omega)
  unfold Oper.wp execOp
  simp only [ho, resolve, invoke, builtin, Sem.run_bind, Sem.run_pure, Result.andThen_ok, List.map_toArray, List.map_cons, List.map_nil, hs, hx, hr]
  exact h g cap w1 (App4.of hb1 hB hgo.1 hgo.2 h2 h3 h4 h5)
end
end Go.Proofs.YtbegecoocgkbiaaGreatDoor

/- Rows of bytes of the call's own, the one that a conversion lays among them: what an append makes of them. No condition. -/
namespace Go.Proofs.YtbegecoocgkbiaaGreatDoor
open Go.RowKit
set_option linter.unusedVariables false

/-- Block g holds the bytes l, in a row of c cells of the call's own; none of the c is frozen. -/
def BR (w : World) (B : Nat) (E : TypeId) (g c : Nat) (l : List UInt8) : Prop :=
  B ≤ g ∧ l.length ≤ c ∧ c ≤ maxLen ∧ ∃ (cur : Array Value) (fr : Nat × Nat), w.heap[g]? = some (.cells cur E fr) ∧ cur.size = c ∧ cur.toList.take l.length = byV l ∧ ∀ j, j < c → ¬ (fr.1 ≤ j ∧ j < fr.2)
section
variable {P : Program} {w w' : World} {B B' g c : Nat} {E : TypeId} {l : List UInt8}
theorem BR.lt (h : BR w B E g c l) : g < w.heap.size := by
  obtain ⟨_, _, _, cur, fr, hg, _⟩ := h
  exact (Array.getElem?_eq_some_iff.1 hg).1
theorem BR.below (h : BR w B E g c l) (hb : Below w.heap.size w w') : BR w' B E g c l := by
  have hl := h.lt
  obtain ⟨h1, h2, h3, cur, fr, hg, h4⟩ := h
  exact ⟨h1, h2, h3, cur, fr, (hb.block g hl).trans hg, h4⟩
theorem BR.dr (h : BR w B E g c l) (hd : Dr w w') : BR w' B E g c l := h.below hd.below
theorem BR.lower (h : BR w B E g c l) (hB : B' ≤ B) : BR w B' E g c l := ⟨Nat.le_trans hB h.1, h.2⟩
theorem BR.cell (h : BR w B E g c l) {j : Nat} {b : UInt8} (hj : l[j]? = some b) : w.cell? ⟨g, j, none⟩ = some (.int .u8 (b.toNat : Int)) := by
  obtain ⟨_, _, _, cur, fr, hg, hs, ht, _⟩ := h
  have hlt := (List.getElem?_eq_some_iff.1 hj).1
  have h1 : (byV l)[j]? = some (.int .u8 (b.toNat : Int)) := by rw [byV, List.getElem?_map, hj]; rfl
  rw [← ht, List.getElem?_take_of_lt hlt] at h1
  simp only [World.cell?, hg]
  simpa using h1
theorem BR.reads (h : BR w B E g c l) : Rds w (g + 1) (some ⟨g, 0, none⟩) (byV l) := fun k u hu => by
  refine ⟨_, rfl, Nat.lt_succ_self _, ?_⟩
  have hk : k < l.length := by have := (List.getElem?_eq_some_iff.1 hu).1; rwa [byV_length] at this
  obtain ⟨b, hb⟩ := some_of_lt (l := l) (k := k) hk
  rw [byV, List.getElem?_map, hb] at hu
  have hu2 : u = .int .u8 (b.toNat : Int) := by simpa using hu.symm
  rw [hu2]
  have hc := h.cell hb
  rcases Nat.eq_zero_or_pos k with h0 | h0
  · subst h0; simpa [Addr.add] using hc
  · simpa [Addr.add, show k ≠ 0 by omega] using hc
theorem BR.take (h : BR w B E g c l) (n : Nat) : BR w B E g c (l.take n) := by
  obtain ⟨h1, h2, h3, cur, fr, hg, hs, ht, hf⟩ := h
  refine ⟨h1, by rw [List.length_take]; omega, h3, cur, fr, hg, hs, ?_, hf⟩
  rw [List.length_take, byV, List.map_take, ← byV, ← ht, List.take_take, Nat.min_comm]
/-- What a conversion lays. -/
theorem BR.conv (w : World) (E : TypeId) (s : ByteArray) (hs : s.size ≤ maxLen) : BR (Lib.bytesWorld w E s) w.heap.size E w.heap.size (grownCap w s.size 0 E) (L s) := by
  have hge := grownCap_ge w s.size 0 E
  have hle := grownCap_le_maxLen w s.size 0 E hs
  have hsz : (Lib.bytesCells w E s).size = grownCap w s.size 0 E := by
    rw [Lib.bytesCells, Array.size_append, Array.size_map, Array.size_replicate]
    have : s.data.size = s.size := rfl
    omega
  refine ⟨Nat.le_refl _, by rw [L_len]; exact hge, hle, _, _, Lib.bytesWorld_at_new w E s, hsz, ?_, fun j hj => by rw [hsz]; omega⟩
  rw [Lib.bytesCells, Array.toList_append, Array.toList_map, L_len, List.take_left' (by rw [List.length_map]; rfl)]
  rfl
theorem BR.ofOwn {v : Value} {n : Nat} (h : Own w B E (.slice (some ⟨g, 0, none⟩) n c) (byV l)) (hn : l.length = n) : BR w B E g c l := by
  obtain ⟨h1, h2 | ⟨g', cap, cur, hv, hb, hg, hn2, hm, hs, ht⟩⟩ := h
  · cases h2.1
  · injection hv with e1 e2 e3
    injection e1 with e1
    injection e1 with e1
    subst e1 e3
    rw [byV_length] at hn2 ht
    exact ⟨hb, hn2, hm, cur, (0, 0), hg, by omega, by rw [Nat.mul_one] at ht; exact ht, fun j _ => by omega⟩
theorem store_br (P : Program) (g o : Nat) (t : TypeId) (fr : Nat × Nat) : ∀ (vs : List Value) (i : Nat) (cur : Array Value) (w : World), w.heap[g]? = some (.cells cur t fr) → (∀ j, j < cur.size → ¬ (fr.1 ≤ j ∧ j < fr.2)) → o + i + vs.length ≤ cur.size → (∀ v ∈ vs, v.oneCell' = true) →
    ∃ w', (storeCells ⟨g, o, none⟩ vs i).run P w = .ok () w' ∧ w.grownBy w' (some g) ∧ w'.heap[g]? = some (.cells (cur.toList.take (o + i) ++ vs ++ cur.toList.drop (o + i + vs.length)).toArray t fr)
  | [], i, cur, w, hg, _, _, _ => ⟨w, rfl, World.grownBy.refl _ _, by
      simp only [List.append_nil, List.length_nil, Nat.add_zero, List.take_append_drop, Array.toArray_toList]; exact hg⟩
  | v :: rest, i, cur, w, hg, hf, hl, h1 => by
    rw [List.length_cons] at hl
    have hi : o + i < cur.size := by omega
    have hadd : (⟨g, o, none⟩ : Addr).add i = ⟨g, o + i, none⟩ := by unfold Addr.add; split <;> simp_all
    have hcell : w.cell? ⟨g, o + i, none⟩ = some cur[o + i] := by simp [World.cell?, hg, hi]
    have hfro : w.frozen? ⟨g, o + i, none⟩ = false := by
      have := hf (o + i) hi
      simp [World.frozen?, hg]
      omega
    have hst : (store ((⟨g, o, none⟩ : Addr).add i) v).run P w = .ok () (w.setRow g (cur.setIfInBounds (o + i) v)) := by
      rw [hadd, run_store P w _ v _ (h1 v (by simp)), hcell]
      simp [hfro, setCell_eq_setRow w g (o + i) cur t fr v hg]
    obtain ⟨w2, hr, hgr, hg2⟩ := store_br P g o t fr rest (i + 1) (cur.setIfInBounds (o + i) v) (w.setRow g (cur.setIfInBounds (o + i) v)) (setRow_heap w g cur _ t fr hg) (by simpa using hf) (by simp; omega) (fun x hx => h1 x (List.mem_cons_of_mem _ hx))
    have hgr1 : w.grownBy (w.setRow g (cur.setIfInBounds (o + i) v)) (some g) := ⟨rfl, rfl, rfl, by simp, fun k _ hk => setRow_other w g k _ (fun e => hk (by simp [e]))⟩
    refine ⟨w2, ?_, grownBy_trans hgr1 hgr, ?_⟩
    · simp only [storeCells, Sem.run_bind, hst, Result.andThen_ok, hr]
    · rw [hg2]
      congr 3
      have e := list_seg_step cur.toList (o + i) v rest (by simp; omega)
      simpa [Array.toList_setIfInBounds, Nat.add_assoc] using e
theorem gr_of_below {w w' : World} (h : Below w.heap.size w w') (row : Option Nat) : w.grownBy w' row := ⟨h.os, h.tape, h.output, h.size, fun k hk _ => h.block k hk⟩
theorem str_cells (s : ByteArray) : Array.map (fun b : UInt8 => Value.int IntKind.u8 (b.toNat : Int)) (s.data.extract 0 s.size) = (byV (L s)).toArray := by
  have hs : s.data.extract 0 s.size = s.data := by
    have : s.size = s.data.size := rfl
    rw [this, Array.extract_size]
  rw [hs]
  apply Array.ext'
  simp [byV, L]
theorem str_cells2 (s : ByteArray) : List.take s.size (List.map (fun b : UInt8 => Value.int IntKind.u8 (b.toNat : Int)) s.data.toList) = byV (L s) := by
  have e : s.size = (List.map (fun b : UInt8 => Value.int IntKind.u8 (b.toNat : Int)) s.data.toList).length := by simp
  rw [e, List.take_length]
  rfl
theorem str_cells3 (s : ByteArray) : (Array.map (fun b : UInt8 => Value.int IntKind.u8 (b.toNat : Int)) s.data).extract 0 s.size = (byV (L s)).toArray := by
  have e : s.size = (Array.map (fun b : UInt8 => Value.int IntKind.u8 (b.toNat : Int)) s.data).size := by simp
  rw [e, Array.extract_size]
  apply Array.ext'
  simp [byV, L]
theorem byV_one (l : List UInt8) : ∀ v ∈ byV l, v.oneCell' = true := by
  intro v hv
  rw [byV, List.mem_map] at hv
  obtain ⟨b, _, rfl⟩ := hv
  rfl
theorem fit_take {cur : Array Value} {l k : List UInt8} (ht : cur.toList.take l.length = byV l) : (cur.toList.take l.length ++ byV k ++ cur.toList.drop (l.length + k.length)).toArray.toList.take (l ++ k).length = byV (l ++ k) := by
  rw [ht, ← byV_append, List.length_append]
  exact List.take_left' (by rw [byV_length, List.length_append])
/-- 'append(b, s...)'. -/
theorem run_append_brs (t u ty : TypeId) (i : TypeInfo) (ht : P.underlying t = some (.slice E)) (hu : P.underlying u = some .string) (hi : P.info? E = some i) (hz : i.zero = some (.int .u8 0)) (hsize : i.size = 1) (hby : i.bytes = 1)
    (h : BR w B E g c l) (s : ByteArray) (n : Nat) (hn : l.length = n) (hlim : n + s.size ≤ 4294967296) (hB : B ≤ w.heap.size) :
    ∃ g' c' w', (Builtin.append_ #[t, u] ty #[.slice (some ⟨g, 0, none⟩) n c, .string s]).run P w = .ok (.slice (some ⟨g', 0, none⟩) (n + s.size) c') w' ∧ BR w' B E g' c' (l ++ L s) ∧ w.grownBy w' (some g) ∧ (g' = g ∨ g' = w.heap.size) := by
  subst hn
  have hrd := h.reads
  obtain ⟨h1, h2, h3, cur, fr, hg, hs, htk, hf⟩ := h
  have hLs := L_len s
  by_cases hroom : l.length + s.size ≤ c
  · obtain ⟨w1, hst, hgr, hg1⟩ := store_br P g l.length E fr (byV (L s)) 0 cur w hg (by rw [hs]; exact hf) (by rw [byV_length, hLs]; omega) (byV_one _)
    simp only [Nat.add_zero, byV_length] at hg1
    refine ⟨g, c, w1, ?_, ⟨h1, by rw [List.length_append, hLs]; exact hroom, h3, _, fr, hg1, ?_, fit_take htk, hf⟩, hgr, .inl rfl⟩
    · have hst2 : (storeCells ({ block := g, off := l.length } : Addr) (byV (L s))).run P w = .ok () w1 := hst
      simp [Builtin.append_, run_underlying ht, run_underlying hu, sizeOf, typeInfo, hi, hsize, Builtin.lenOf, hroom, Builtin.firstCells, Addr.add_lit]
      rw [str_cells2, hst2]
      rfl
    · simp [hs, byV_length, hLs]
      rw [← hs] at hroom ⊢
      have := Array.length_toList (xs := cur)
      omega
  · have h63 : ¬ (9223372036854775807 < ((l.length : Int) + (s.size : Int))) := by omega
    have hb2 : Builtin.nextslicecap (l.length + s.size) c * 1 ≤ 281474976710656 := growslice_fits (by omega) (by omega)
    have h48 : ¬ (281474976710656 < Builtin.nextslicecap (l.length + s.size) c) := by omega
    have hfo := run_firstCells_some (P := P) w.drew 1 l.length ⟨g, 0, none⟩ l.length c (byV l) (by rw [byV_length, Nat.mul_one]) (fun j v hj => by
      obtain ⟨ad, e1, _, e2⟩ := hrd j v hj
      injection e1 with e1
      subst e1
      exact e2)
    have hge := grownCap_ge w (l.length + s.size) c E
    have hle := grownCap_le_maxLen w (l.length + s.size) c E (by unfold maxLen; omega)
    have hfo2 : (loadCells ({ block := g, off := 0 } : Addr) l.length).run P w.drew = .ok (byV l).toArray w.drew := by simpa [Builtin.firstCells] using hfo
    refine ⟨w.heap.size, grownCap w (l.length + s.size) c E, w.drew.alloc (.cells ((byV l).toArray ++ (byV (L s)).toArray ++ Builtin.zeroCells #[.int .u8 0] (grownCap w (l.length + s.size) c E - (l.length + s.size))) E), ?_, ?_, ?_, .inr rfl⟩
    · simp [Builtin.append_, run_underlying ht, run_underlying hu, sizeOf, typeInfo, zeroValue, hi, hz, hsize, hby, Builtin.lenOf, hroom, h63, h48, Question.forced, Builtin.firstCells, newRow, grownCap, Value.cells]
      rw [hfo2, str_cells3]
      simp only [Result.andThen_ok]
      congr 3
      apply Array.ext'
      simp
    · refine ⟨hB, by rw [List.length_append, hLs]; exact hge, hle, _, (0, 0), heap_alloc_new w.drew _, ?_, ?_, fun j _ => by omega⟩
      · simp [Builtin.zeroCells, byV_length, hLs]; omega
      · rw [Array.toList_append, Array.toList_append, List.toList_toArray, List.toList_toArray, ← byV_append]
        exact List.take_left' (by rw [byV_length])
    · exact gr_of_below (((Below.refl w.heap.size w).drew).alloc (by simp) _) _
end
section
variable {P : Program} {w : World} {B g c : Nat} {E : TypeId} {l : List UInt8}
theorem step_append_brs {ops : Array Oper} {o : Oper} {a : Act} {K : Act → World → Prop} {Q : Exit → Act → World → Prop} {R : Prop} (hg : o.guard = none) (s x : Operand) (t u : TypeId)
    (ho : o.op = .call { callee := .builtin .append, args := #[s, x], argTypes := #[t, u] })
    (ht : P.underlying t = some (.slice E)) (hu : P.underlying u = some .string) (hinfo : (P.info? E).map (fun i => (i.zero, i.size, i.bytes)) = some (some (.int .u8 0), 1, 1))
    (n : Nat) (hs : a.eval s = .slice (some ⟨g, 0, none⟩) n c) (h : BR w B E g c l) (y : ByteArray) (hx : a.eval x = .string y)
    (hn : l.length = n) (hlim : n + y.size ≤ 4294967296) (hB : B ≤ w.heap.size)
    (hK : ∀ g' c' w', BR w' B E g' c' (l ++ L y) → Below B w w' → K (a.put o.dst (.slice (some ⟨g', 0, none⟩) (n + y.size) c')) w') :
    if Region.wanted o (yielded ops a.tmps) = true then Oper.wp P o a w K Q else R := by
  obtain ⟨i, hi, hz, hsize, hby⟩ := info_parts hinfo
  have hw : Region.wanted o (yielded ops a.tmps) = true := by simp [Region.wanted, hg]
  rw [if_pos hw]
  obtain ⟨g', c', w', hr, h2, h3, h4⟩ := run_append_brs (P := P) t u o.type i ht hu hi hz hsize hby h y n hn hlim hB
  unfold Oper.wp execOp
  simp only [ho, resolve, invoke, builtin, Sem.run_bind, Sem.run_pure, Result.andThen_ok, List.map_toArray, List.map_cons, List.map_nil, hs, hx, hr]
  exact hK g' c' w' h2 ((Below.refl B w).grown h3 hB (fun k hk => by injection hk with hk; have := h.1; omega))
end
end Go.Proofs.YtbegecoocgkbiaaGreatDoor

/- Tables of integers in memory: a slice of rows; one more row; one append, whatever is appended. No condition. -/
namespace Go.Proofs.YtbegecoocgkbiaaGreatDoor
open Go.RowKit
set_option linter.unusedVariables false

def ints (r : List Int) : List Value := r.map (Value.int .i64)
theorem ints_len (r : List Int) : (ints r).length = r.length := List.length_map ..
theorem ints_at {r : List Int} {j : Nat} {x : Int} (h : r[j]? = some x) : (ints r)[j]? = some (.int .i64 x) := map_at _ h
theorem ints_app (a b : List Int) : ints (a ++ b) = ints a ++ ints b := List.map_append
theorem ints_one (r : List Int) : ∀ v ∈ ints r, v.oneCell' = true := fun v hv => by
  obtain ⟨x, _, rfl⟩ := List.mem_map.1 hv; rfl

/-- The value u is a row of the numbers r, in a block below B other than go. -/
def RowV (w : World) (B go : Nat) (u : Value) (r : List Int) : Prop :=
  ∃ q c, u = .slice (some ⟨q, 0, none⟩) r.length c ∧ r.length ≤ c ∧ c ≤ maxLen ∧ q < B ∧ q ≠ go ∧ ∀ (j : Nat) (x : Int), r[j]? = some x → w.cell? ⟨q, j, none⟩ = some (.int .i64 x)
/-- The rows m lie in block g, one behind the other. -/
def Gr (w : World) (B g : Nat) (m : List (List Int)) : Prop := g < B ∧ ∀ (i : Nat) (r : List Int), m[i]? = some r → ∃ u, w.cell? ⟨g, i, none⟩ = some u ∧ RowV w B g u r
section
variable {w w' : World} {B B' go : Nat} {u : Value} {r : List Int} {m : List (List Int)}
theorem RowV.below (h : RowV w B go u r) (hb : Below B' w w') (hB : B ≤ B') : RowV w' B go u r := by
  obtain ⟨q, c, e, h1, h2, h3, h4, h5⟩ := h
  exact ⟨q, c, e, h1, h2, h3, h4, fun j x hx => (hb.cell (p := ⟨q, j, none⟩) (by show q < B'; omega)).trans (h5 j x hx)⟩
theorem RowV.more (h : RowV w B go u r) (hB : B ≤ B') : RowV w B' go u r := by
  obtain ⟨q, c, e, h1, h2, h3, h4, h5⟩ := h
  exact ⟨q, c, e, h1, h2, by omega, h4, h5⟩
theorem Gr.below (h : Gr w B go m) (hb : Below B' w w') (hB : B ≤ B') : Gr w' B go m :=
  ⟨h.1, fun i r hr => by
    obtain ⟨u, hu, hv⟩ := h.2 i r hr
    exact ⟨u, (hb.cell (p := ⟨go, i, none⟩) (by show go < B'; have := h.1; omega)).trans hu, hv.below hb hB⟩⟩
theorem Gr.more (h : Gr w B go m) (hB : B ≤ B') : Gr w B' go m :=
  ⟨by have := h.1; omega, fun i r hr => by
    obtain ⟨u, hu, hv⟩ := h.2 i r hr
    exact ⟨u, hu, hv.more hB⟩⟩
theorem Gr.row (h : Gr w B go m) {i : Nat} {r : List Int} (hr : m[i]? = some r) : ∃ q c, w.cell? ⟨go, i, none⟩ = some (.slice (some ⟨q, 0, none⟩) r.length c) ∧ r.length ≤ c ∧ c ≤ maxLen ∧ q < B ∧ ∀ (j : Nat) (x : Int), r[j]? = some x → w.cell? ⟨q, j, none⟩ = some (.int .i64 x) := by
  obtain ⟨u, hu, q, c, rfl, h1, h2, h3, _, h5⟩ := h.2 i r hr
  exact ⟨q, c, hu, h1, h2, h3, h5⟩
theorem RowV.ofOwn {E q n c : Nat} (h : Own w B E (.slice (some ⟨q, 0, none⟩) n c) (ints r)) (hn : r.length = n) (hg : go < B) : RowV w w.heap.size go (.slice (some ⟨q, 0, none⟩) n c) r := by
  subst hn
  obtain ⟨A', c', hv, h1, h2, _⟩ := h.shape
  injection hv with e1 e2 e3
  subst e3
  have hl := World.ownsRow.lt h q rfl
  rw [ints_len] at h1
  exact ⟨q, c, rfl, h1, h2, hl.2, by omega, fun j x hx => by
    have h2 : w.ownsRow B E 1 (.slice (some ⟨q, 0, none⟩) r.length c) r.length (ints r) := by have := h; unfold Own at this; rwa [ints_len] at this
    rw [World.ownsRow.cellAt h2 j (by have := (List.getElem?_eq_some_iff.1 hx).1; omega)]
    exact ints_at hx⟩
end

/-- A table of the call's own, row by row. -/
structure Bld (w : World) (B : Nat) (E : TypeId) (g n c : Nat) (vs : List Value) (rs : List (List Int)) : Prop where
  own : Own w B E (.slice (some ⟨g, 0, none⟩) n c) vs
  vlen : vs.length = n
  rlen : rs.length = n
  rows : ∀ (i : Nat) (r : List Int), rs[i]? = some r → ∃ u, vs[i]? = some u ∧ RowV w w.heap.size g u r
section
variable {w w' : World} {B g n c : Nat} {E : TypeId} {vs : List Value} {rs : List (List Int)} {u : Value} {r : List Int}
theorem Bld.lt (h : Bld w B E g n c vs rs) : B ≤ g ∧ g < w.heap.size := World.ownsRow.lt h.own g rfl
theorem Bld.cap (h : Bld w B E g n c vs rs) : n ≤ c ∧ c ≤ maxLen := by
  obtain ⟨A', c', hv, h1, h2, _⟩ := h.own.shape
  injection hv with e1 e2 e3
  subst e3
  rw [h.vlen] at h1
  exact ⟨h1, h2⟩
theorem Bld.below (h : Bld w B E g n c vs rs) (hb : Below w.heap.size w w') : Bld w' B E g n c vs rs :=
  ⟨h.own.below hb, h.vlen, h.rlen, fun i r hr => by
    obtain ⟨u, hu, hv⟩ := h.rows i r hr
    exact ⟨u, hu, (hv.below hb (Nat.le_refl _)).more hb.size⟩⟩
theorem Bld.lower {B' : Nat} (h : Bld w B E g n c vs rs) (hB : B' ≤ B) : Bld w B' E g n c vs rs := ⟨h.own.lower hB, h.vlen, h.rlen, h.rows⟩
theorem Bld.gr (h : Bld w B E g n c vs rs) : Gr w w.heap.size g rs :=
  ⟨h.lt.2, fun i r hr => by
    obtain ⟨u, hu, hv⟩ := h.rows i r hr
    refine ⟨u, ?_, hv⟩
    have h2 : w.ownsRow B E 1 (.slice (some ⟨g, 0, none⟩) n c) n vs := by have := h.own; unfold Own at this; rwa [h.vlen] at this
    rw [World.ownsRow.cellAt h2 i (by have := (List.getElem?_eq_some_iff.1 hu).1; have := h.vlen; omega)]
    exact hu⟩
/-- .. behind one more row. -/
theorem Bld.add {v' : Value} (h : Bld w B E g n c vs rs) (hr : RowV w w.heap.size g u r) (ho : Own w' B E v' (vs ++ [u])) (hg : w.grownBy w' (some g)) (hat : v'.ownBlock = some g ∨ v'.ownBlock = some w.heap.size) :
    ∃ g' c', v' = .slice (some ⟨g', 0, none⟩) (n + 1) c' ∧ Bld w' B E g' (n + 1) c' (vs ++ [u]) (rs ++ [r]) := by
  have hl1 : (vs ++ [u]).length = n + 1 := by rw [List.length_append, h.vlen]; rfl
  have hne : ∃ g', v'.ownBlock = some g' ∧ (g' = g ∨ g' = w.heap.size) := by
    rcases hat with e | e
    · exact ⟨g, e, .inl rfl⟩
    · exact ⟨_, e, .inr rfl⟩
  obtain ⟨g', he, hgg⟩ := hne
  have hv : ∃ c', v' = .slice (some ⟨g', 0, none⟩) (n + 1) c' := by
    rcases ho.2 with ⟨rfl, hn⟩ | ⟨k, cap, cur, rfl, _⟩
    · simp [Value.ownBlock] at he
    · simp only [Value.ownBlock, Option.some.injEq] at he
      subst he
      exact ⟨cap, by rw [hl1]⟩
  obtain ⟨c', rfl⟩ := hv
  have hgl := h.lt.2
  have keep : ∀ u2 r2, RowV w w.heap.size g u2 r2 → RowV w' w'.heap.size g' u2 r2 := fun u2 r2 hv => by
    obtain ⟨q, c2, e, h1, h2, h3, h4, h5⟩ := hv
    refine ⟨q, c2, e, h1, h2, Nat.lt_of_lt_of_le h3 hg.size, by omega, fun j x hx => ?_⟩
    exact (hg.cell_far ⟨q, j, none⟩ h3 (by simpa using h4)).trans (h5 j x hx)
  refine ⟨g', c', rfl, ho, hl1, by rw [List.length_append, h.rlen]; rfl, fun i r2 hr2 => ?_⟩
  by_cases hi : i < n
  · rw [List.getElem?_append_left (by rw [h.rlen]; exact hi)] at hr2
    obtain ⟨u2, hu2, hv2⟩ := h.rows i r2 hr2
    exact ⟨u2, by rw [List.getElem?_append_left (by rw [h.vlen]; exact hi)]; exact hu2, keep _ _ hv2⟩
  · have hin : i = n := by
      have := (List.getElem?_eq_some_iff.1 hr2).1
      rw [List.length_append, h.rlen] at this
      simp at this; omega
    subst hin
    rw [List.getElem?_append_right (by rw [h.rlen]; exact Nat.le_refl _), h.rlen, Nat.sub_self] at hr2
    simp at hr2
    subst hr2
    exact ⟨u, by rw [List.getElem?_append_right (by rw [h.vlen]; exact Nat.le_refl _), h.vlen, Nat.sub_self]; rfl, keep _ _ hr⟩
theorem Bld.add4 {g' c' : Nat} (h : Bld w B E g n c vs rs) (hr : RowV w w.heap.size g u r) (ha : App4 w w' B E g n c g' (n + 1) c' (vs ++ [u])) : Bld w' B E g' (n + 1) c' (vs ++ [u]) (rs ++ [r]) := by
  have hl1 : (vs ++ [u]).length = n + 1 := by rw [List.length_append, h.vlen]; rfl
  have keep : ∀ u2 r2, RowV w w.heap.size g u2 r2 → RowV w' w'.heap.size g' u2 r2 := fun u2 r2 hv => by
    obtain ⟨q, c2, e, h1, h2, h3, h4, h5⟩ := hv
    exact ⟨q, c2, e, h1, h2, Nat.lt_of_lt_of_le h3 ha.size, ha.far q h3 h4, fun j x hx => (ha.kept q j h3 (.inl h4)).trans (h5 j x hx)⟩
  refine ⟨ha.own, hl1, by rw [List.length_append, h.rlen]; rfl, fun i r2 hr2 => ?_⟩
  by_cases hi : i < n
  · rw [List.getElem?_append_left (by rw [h.rlen]; exact hi)] at hr2
    obtain ⟨u2, hu2, hv2⟩ := h.rows i r2 hr2
    exact ⟨u2, by rw [List.getElem?_append_left (by rw [h.vlen]; exact hi)]; exact hu2, keep _ _ hv2⟩
  · have hin : i = n := by
      have := (List.getElem?_eq_some_iff.1 hr2).1
      rw [List.length_append, h.rlen] at this
      simp at this; omega
    subst hin
    rw [List.getElem?_append_right (by rw [h.rlen]; exact Nat.le_refl _), h.rlen, Nat.sub_self] at hr2
    simp at hr2
    subst hr2
    exact ⟨u, by rw [List.getElem?_append_right (by rw [h.vlen]; exact Nat.le_refl _), h.vlen, Nat.sub_self]; rfl, keep _ _ hr⟩
theorem Bld.empty (w : World) (hB : B ≤ w.heap.size) : Bld (w.alloc (.cells #[] E)) B E w.heap.size 0 0 [] [] :=
  ⟨Own.empty hB, rfl, rfl, fun i r hr => by simp at hr⟩
end

/-- One append in a region that draws its order, whatever is appended, at whatever world. -/
theorem step_appR {P : Program} {W : World} {ops : Array Oper} {o : Oper} {a : Act} {K : Act → World → Prop} {Q : Exit → Act → World → Prop} {R : Prop} {E : TypeId} {v : Value} {xs : List Value} (hg : o.guard = none) (s x : Operand) (t : TypeId)
    (ho : o.op = .call { callee := .builtin .append, args := #[s, x], argTypes := #[t, t] })
    (z : Value) (bytes : Nat) (ht : P.underlying t = some (.slice E)) (hinfo : (P.info? E).map (fun i => (i.zero, i.size, i.bytes)) = some (some z, 1, bytes)) (hzs : z.cells.size = 1)
    (B n : Nat) (hxl : xs.length = n) (hs : a.eval s = v) (hown : Own W B E v xs) (ad : Addr) (k c2 : Nat) (news : List Value) (hx : a.eval x = .slice (some ad) k c2)
    (hl : news.length = k) (hnews : ∀ j u, news[j]? = some u → W.cell? (ad.add j) = some u) (h1 : ∀ u ∈ news, u.oneCell' = true)
    (nr : Nat) (hnr : n + k = nr) (hn : nr < 4294967296) (hb16 : bytes ≤ 1024) (hB : B ≤ W.heap.size)
    (h : ∀ A' c' w', Own w' B E (.slice A' nr c') (xs ++ news) → W.grownBy w' v.ownBlock → ((Value.slice A' nr c').ownBlock = v.ownBlock ∨ (Value.slice A' nr c').ownBlock = some W.heap.size) → (Value.slice A' nr c' = .slice none 0 0 ↔ v = .slice none 0 0 ∧ k = 0) → K (a.put o.dst (.slice A' nr c')) w') :
    if Region.wanted o (yielded ops a.tmps) = true then Oper.wp P o a W K Q else R := by
  subst hxl hnr
  obtain ⟨i, hi, hz, hsize, hby⟩ := info_parts hinfo
  have hw : Region.wanted o (yielded ops a.tmps) = true := by simp [Region.wanted, hg]
  rw [if_pos hw]
  obtain ⟨v', w', hr, h2, h3, h4, h5⟩ := run_append_own_at (P := P) (w := W) B t o.type E i z 1 bytes ht hi hz hsize hby hzs (by decide) v xs.length xs hown ad k c2 news (by rw [Nat.mul_one]; exact hl) hnews h1 (by unfold maxLen; omega)
    (calc (xs.length + k) * bytes ≤ 4294967296 * 1024 := Nat.mul_le_mul (by omega) hb16
      _ ≤ 140737488355328 := by decide) hB
  have h2' : Own w' B E v' (xs ++ news) := by unfold Own; rw [List.length_append, hl]; exact h2
  obtain ⟨A', c', rfl, _⟩ := h2'.shape
  rw [List.length_append, hl] at h2' h5 h4 hr
  unfold Oper.wp execOp
  simp only [ho, resolve, invoke, builtin, Sem.run_bind, Sem.run_pure, Result.andThen_ok, List.map_toArray, List.map_cons, List.map_nil, hs, hx, hr]
  exact h A' c' w' h2' h3 h5 h4
end Go.Proofs.YtbegecoocgkbiaaGreatDoor
