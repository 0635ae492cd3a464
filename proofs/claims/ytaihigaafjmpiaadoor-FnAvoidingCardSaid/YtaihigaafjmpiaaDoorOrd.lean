/- Words in order, each once, the plain part: by insertion, and by a sort and a walk along it. No condition. -/
import Derived.Test.YtaihigaafjmpiaaDoorPair
import Derived.Test.YtaihigaafjmpiaaDoorByt
import Derived.Sort.Walk0
import Derived.Sort.KeysCollected
import Derived.Lib.SlicesCompact
namespace Go.Proofs.YtaihigaafjmpiaaDoor
open Go.RowKit
set_option linter.unusedVariables false

theorem ba_eq {a b : ByteArray} (h : L a = L b) : a = b := bytes_ext h
theorem L_strOf (s : ByteArray) : strOf (L s) = s := ba_eq (strOf_L _)
/-- In order, each once. -/
def SS (l : List ByteArray) : Prop := l.Pairwise fun a b => L a < L b
theorem ss_uniq : ∀ {l m : List ByteArray}, SS l → SS m → (∀ x, x ∈ l ↔ x ∈ m) → l = m
  | [], [], _, _, _ => rfl
  | [], b :: m, _, _, h => absurd ((h b).2 List.mem_cons_self) (by simp)
  | a :: l, [], _, _, h => absurd ((h a).1 List.mem_cons_self) (by simp)
  | a :: l, b :: m, h1, h2, h => by
    obtain ⟨ha, hl⟩ := List.pairwise_cons.1 h1
    obtain ⟨hb, hm⟩ := List.pairwise_cons.1 h2
    have hab : a = b := by
      rcases List.mem_cons.1 ((h a).1 List.mem_cons_self) with e | e
      · exact e
      · rcases List.mem_cons.1 ((h b).2 List.mem_cons_self) with e2 | e2
        · exact e2.symm
        · exact absurd (List.lt_trans (hb a e) (ha b e2)) (List.lt_irrefl _)
    subst hab
    have : l = m := ss_uniq hl hm fun x => by
      constructor
      · intro hx
        rcases List.mem_cons.1 ((h x).1 (List.mem_cons_of_mem _ hx)) with e | e
        · subst e; exact absurd (ha x hx) (List.lt_irrefl _)
        · exact e
      · intro hx
        rcases List.mem_cons.1 ((h x).2 (List.mem_cons_of_mem _ hx)) with e | e
        · subst e; exact absurd (hb x hx) (List.lt_irrefl _)
        · exact e
    rw [this]
/-- Go's '>' on strings. -/
def gtS (a b : ByteArray) : Bool := !(Op.bytesLess a.toList b.toList || a.toList == b.toList)
theorem gtS_iff (a b : ByteArray) : gtS a b = decide (L b < L a) := by
  unfold gtS
  rw [str_eq, ByteArray.toList_eq, ByteArray.toList_eq, bytesLess_eq]
  by_cases h : L b < L a
  · have h1 : ¬ L a < L b := fun k => List.lt_irrefl _ (List.lt_trans h k)
    have h2 : a ≠ b := fun e => by subst e; exact List.lt_irrefl _ h
    rw [decide_eq_true h, decide_eq_false h1, decide_eq_false h2]; rfl
  · rw [decide_eq_false h]
    by_cases h2 : a = b
    · rw [decide_eq_true h2, Bool.or_true]; rfl
    · have h1 : L a < L b := by
        rcases Classical.em (L a < L b) with k | k
        · exact k
        · exact absurd (ba_eq (List.le_antisymm h k)) h2
      rw [decide_eq_true h1]; rfl
/-- How many elements stay ahead of x, of the first k. -/
def kp (ss : List ByteArray) (x : ByteArray) : Nat → Nat
  | 0 => 0
  | k + 1 => if gtS (ss.getD k ⟨#[]⟩) x then kp ss x k else k + 1
def insB (ss : List ByteArray) (x : ByteArray) : List ByteArray :=
  if kp ss x ss.length ≠ 0 ∧ ss.getD (kp ss x ss.length - 1) ⟨#[]⟩ = x then ss else ss.take (kp ss x ss.length) ++ x :: ss.drop (kp ss x ss.length)
theorem kp_le (ss : List ByteArray) (x : ByteArray) : ∀ k, kp ss x k ≤ k
  | 0 => Nat.le_refl _
  | k + 1 => by have := kp_le ss x k; unfold kp; split <;> omega
theorem kp_gt (ss : List ByteArray) (x : ByteArray) : ∀ k j, kp ss x k ≤ j → j < k → gtS (ss.getD j ⟨#[]⟩) x = true
  | 0, j, _, h => by omega
  | k + 1, j, h1, h2 => by
    unfold kp at h1
    by_cases hg : gtS (ss.getD k ⟨#[]⟩) x = true
    · rw [if_pos hg] at h1
      by_cases hj : j = k
      · subst hj; exact hg
      · exact kp_gt ss x k j h1 (by omega)
    · rw [if_neg hg] at h1; omega
theorem kp_not (ss : List ByteArray) (x : ByteArray) : ∀ k, kp ss x k ≠ 0 → gtS (ss.getD (kp ss x k - 1) ⟨#[]⟩) x = false
  | 0, h => absurd rfl h
  | k + 1, h => by
    unfold kp at h ⊢
    by_cases hg : gtS (ss.getD k ⟨#[]⟩) x = true
    · rw [if_pos hg] at h ⊢; exact kp_not ss x k h
    · rw [if_neg hg]; simpa using hg
theorem getD_mem {ss : List ByteArray} {j : Nat} (h : j < ss.length) : ss.getD j ⟨#[]⟩ ∈ ss := by
  rw [List.getD_eq_getElem?_getD, List.getElem?_eq_getElem h]; exact List.getElem_mem h
theorem getD_get {ss : List ByteArray} {j : Nat} (h : j < ss.length) : ss.getD j ⟨#[]⟩ = ss[j] := by
  rw [List.getD_eq_getElem?_getD, List.getElem?_eq_getElem h]; rfl
theorem insB_ok {ss : List ByteArray} (x : ByteArray) (h : SS ss) : SS (insB ss x) ∧ ∀ y, y ∈ insB ss x ↔ y ∈ ss ∨ y = x := by
  unfold insB
  have hle := kp_le ss x ss.length
  have hgt := kp_gt ss x ss.length
  have hnot := kp_not ss x ss.length
  obtain ⟨k, hk⟩ : ∃ k, kp ss x ss.length = k := ⟨_, rfl⟩
  rw [hk] at hle hgt hnot ⊢
  by_cases hc : k ≠ 0 ∧ ss.getD (k - 1) ⟨#[]⟩ = x
  · rw [if_pos hc]
    refine ⟨h, fun y => ⟨.inl, fun hy => ?_⟩⟩
    rcases hy with hy | rfl
    · exact hy
    · rw [← hc.2]; exact getD_mem (by omega)
  · rw [if_neg hc]
    have hp := List.pairwise_iff_getElem.1 h
    have h1 : ∀ a ∈ ss.take k, L a < L x := fun a ha => by
      obtain ⟨j, hj, rfl⟩ := List.getElem_of_mem ha
      rw [List.length_take] at hj
      rw [List.getElem_take]
      have hk0 : k ≠ 0 := by omega
      have hlast := hnot hk0
      rw [gtS_iff, getD_get (by omega)] at hlast
      have hl2 : ¬ L x < L (ss[k - 1]'(by omega)) := of_decide_eq_false hlast
      have hne : ss[k - 1]'(by omega) ≠ x := fun e => hc ⟨hk0, by rw [getD_get (by omega)]; exact e⟩
      have hlt : L (ss[k - 1]'(by omega)) < L x := by
        rcases Classical.em (L (ss[k - 1]'(by omega)) < L x) with e | e
        · exact e
        · exact absurd (ba_eq (List.le_antisymm hl2 e)) hne
      by_cases hjk : j = k - 1
      · subst hjk; exact hlt
      · exact List.lt_trans (hp j (k - 1) (by omega) (by omega) (by omega)) hlt
    have h2 : ∀ a ∈ ss.drop k, L x < L a := fun a ha => by
      obtain ⟨j, hj, rfl⟩ := List.getElem_of_mem ha
      rw [List.length_drop] at hj
      rw [List.getElem_drop]
      have hg := hgt (k + j) (by omega) (by omega)
      rw [gtS_iff, getD_get (by omega)] at hg
      exact of_decide_eq_true hg
    refine ⟨?_, fun y => ?_⟩
    · unfold SS
      rw [List.pairwise_append, List.pairwise_cons]
      refine ⟨List.Pairwise.sublist (List.take_sublist _ _) h, ⟨h2, List.Pairwise.sublist (List.drop_sublist _ _) h⟩, fun a ha b hb => ?_⟩
      rcases List.mem_cons.1 hb with rfl | hb
      · exact h1 a ha
      · exact List.lt_trans (h1 a ha) (h2 b hb)
    · rw [List.mem_append, List.mem_cons]
      constructor
      · rintro (hy | rfl | hy)
        · exact .inl (List.mem_of_mem_take hy)
        · exact .inr rfl
        · exact .inl (List.mem_of_mem_drop hy)
      · rintro (hy | rfl)
        · rw [← List.take_append_drop k ss, List.mem_append] at hy
          rcases hy with hy | hy
          · exact .inl hy
          · exact .inr (.inr hy)
        · exact .inr (.inl rfl)
/-- The words of a list, in order, each once: by insertion. -/
def insL (l : List ByteArray) : List ByteArray := l.foldl insB []
theorem insL_ok : ∀ (l a : List ByteArray), SS a → SS (l.foldl insB a) ∧ ∀ y, y ∈ l.foldl insB a ↔ y ∈ a ∨ y ∈ l
  | [], a, h => ⟨h, fun y => by simp⟩
  | x :: l, a, h => by
    have h1 := insB_ok x h
    have h2 := insL_ok l (insB a x) h1.1
    rw [List.foldl_cons]
    refine ⟨h2.1, fun y => ?_⟩
    rw [h2.2, h1.2, List.mem_cons]
    constructor
    · rintro ((h | h) | h)
      · exact .inl h
      · exact .inr (.inl h)
      · exact .inr (.inr h)
    · rintro (h | h | h)
      · exact .inl (.inl h)
      · exact .inl (.inr h)
      · exact .inr h
theorem insL_ss (l : List ByteArray) : SS (insL l) := (insL_ok l [] List.Pairwise.nil).1
theorem insL_mem (l : List ByteArray) (y : ByteArray) : y ∈ insL l ↔ y ∈ l := by
  rw [insL, (insL_ok l [] List.Pairwise.nil).2]; simp
theorem insL_take {l : List ByteArray} {k : Nat} {x : ByteArray} (h : l[k]? = some x) : insL (l.take (k + 1)) = insB (insL (l.take k)) x := by
  rw [List.take_add_one, h]; simp [insL]
theorem insB_len (ss : List ByteArray) (x : ByteArray) : (insB ss x).length ≤ ss.length + 1 := by
  unfold insB
  have := kp_le ss x ss.length
  split
  · omega
  · simp; omega
theorem insL_len : ∀ l : List ByteArray, (insL l).length ≤ l.length := by
  suffices h : ∀ (l a : List ByteArray), (l.foldl insB a).length ≤ a.length + l.length by
    intro l; have := h l []; unfold insL; simpa using this
  intro l
  induction l with
  | nil => intro a; simp
  | cons x l ih =>
    intro a
    have h1 := ih (insB a x)
    have h2 := insB_len a x
    simp only [List.foldl_cons, List.length_cons]; omega

/-- A sorted array's elements, each once. -/
theorem comp_mem (d : Array (List UInt8)) : ∀ m x, x ∈ Lib.compactUpTo d m ↔ ∃ j, j < m ∧ d[j]! = x
  | 0, x => by simp [Lib.compactUpTo]
  | m + 1, x => by
    rw [Lib.compactUpTo_succ, List.mem_append, comp_mem d m x]
    constructor
    · rintro (⟨j, hj, h⟩ | h)
      · exact ⟨j, by omega, h⟩
      · split at h
        · exact ⟨m, by omega, (List.mem_singleton.1 h).symm⟩
        · simp at h
    · rintro ⟨j, hj, h⟩
      by_cases hjm : j = m
      · subst hjm
        by_cases hk : Lib.keeps d j = true
        · rw [if_pos hk]; exact .inr (by simp [h])
        · unfold Lib.keeps at hk
          simp only [decide_eq_true_eq, not_or, Classical.not_not] at hk
          exact .inl ⟨j - 1, by omega, by rw [← hk.2]; exact h⟩
      · exact .inl ⟨j, by omega, h⟩
theorem comp_ss (d : Array (List UInt8)) (hs : ∀ i j, i < j → j < d.size → d[i]! ≤ d[j]!) : ∀ m, m ≤ d.size → (Lib.compactUpTo d m).Pairwise (· < ·)
  | 0, _ => by simp [Lib.compactUpTo]
  | m + 1, hm => by
    rw [Lib.compactUpTo_succ, List.pairwise_append]
    refine ⟨comp_ss d hs m (by omega), by split <;> simp, fun a ha b hb => ?_⟩
    split at hb
    · rename_i hk
      have hb' : b = d[m]! := by simpa using hb
      subst hb'
      obtain ⟨j, hj, rfl⟩ := (comp_mem d m a).1 ha
      unfold Lib.keeps at hk
      have hne : d[m]! ≠ d[m - 1]! := by
        rcases of_decide_eq_true hk with h | h
        · omega
        · exact h
      have hlt : d[m - 1]! < d[m]! := by
        rcases Classical.em (d[m - 1]! < d[m]!) with e | e
        · exact e
        · exact absurd (List.le_antisymm e (hs (m - 1) m (by omega) (by omega))) hne
      by_cases hjm : j = m - 1
      · subst hjm; exact hlt
      · have h1 := hs j (m - 1) (by omega) (by omega)
        rcases Classical.em (d[j]! < d[m - 1]!) with e | e
        · exact List.lt_trans e hlt
        · have : d[j]! = d[m - 1]! := List.le_antisymm h1 e
          rw [this]; exact hlt
    · simp at hb
abbrev srt (l : List ByteArray) : List (List UInt8) := (l.map L).mergeSort fun x y => decide (x ≤ y)
/-- The words of a list, in order, each once: by a sort. -/
def ordL (l : List ByteArray) : List ByteArray := (Lib.compact (srt l)).map strOf
theorem srt_len (l : List ByteArray) : (srt l).length = l.length := by
  rw [srt, (List.mergeSort_perm _ _).length_eq, List.length_map]
theorem ord_ins (l : List ByteArray) : ordL l = insL l := by
  have htr : ∀ a b c : List UInt8, decide (a ≤ b) = true → decide (b ≤ c) = true → decide (a ≤ c) = true := fun a b c h1 h2 => decide_eq_true (List.le_trans (of_decide_eq_true h1) (of_decide_eq_true h2))
  have htt : ∀ a b : List UInt8, (decide (a ≤ b) || decide (b ≤ a)) = true := fun a b => by
    rcases List.le_total a b with h | h
    · rw [decide_eq_true h]; rfl
    · rw [decide_eq_true h, Bool.or_true]
  have hp : (srt l).Pairwise fun a b => decide (a ≤ b) = true := List.pairwise_mergeSort (le := fun x y : List UInt8 => decide (x ≤ y)) htr htt (l.map L)
  have hs : ∀ i j, i < j → j < (srt l).toArray.size → (srt l).toArray[i]! ≤ (srt l).toArray[j]! := fun i j hij hj => by
    have hj' : j < (srt l).length := by simpa using hj
    have := of_decide_eq_true (List.pairwise_iff_getElem.1 hp i j (by omega) hj' hij)
    rw [getElem!_pos _ i (by rw [List.size_toArray]; omega), getElem!_pos _ j hj]
    simpa using this
  refine ss_uniq ?_ (insL_ss l) fun x => ?_
  · unfold SS ordL
    rw [List.pairwise_map]
    have := comp_ss (srt l).toArray hs (srt l).length (by simp)
    refine List.Pairwise.imp (fun {a b} h => ?_) this
    rw [strOf_L, strOf_L]; exact h
  · rw [insL_mem, ordL, List.mem_map]
    have hm : ∀ y, y ∈ Lib.compact (srt l) ↔ y ∈ l.map L := fun y => by
      rw [Lib.compact, comp_mem, ← (List.mergeSort_perm (l.map L) fun x y => decide (x ≤ y)).mem_iff]
      constructor
      · rintro ⟨j, hj, rfl⟩
        rw [getElem!_pos _ j (by simpa using hj)]
        simp
      · intro hy
        obtain ⟨j, hj, rfl⟩ := List.getElem_of_mem hy
        exact ⟨j, hj, by rw [getElem!_pos _ j (by simpa using hj)]; simp⟩
    constructor
    · rintro ⟨y, hy, rfl⟩
      obtain ⟨z, hz, rfl⟩ := List.mem_map.1 ((hm y).1 hy)
      rw [L_strOf]; exact hz
    · intro hx
      exact ⟨L x, (hm _).2 (List.mem_map.2 ⟨x, hx, rfl⟩), L_strOf x⟩
end Go.Proofs.YtaihigaafjmpiaaDoor
