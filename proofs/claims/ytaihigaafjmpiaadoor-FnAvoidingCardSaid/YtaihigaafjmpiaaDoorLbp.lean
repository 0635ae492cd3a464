/- Least forbidden words, the plain part: an ordered list cut at a length; all words of at most n letters. No condition. -/
import Derived.Test.YtaihigaafjmpiaaDoorOrd
import Derived.Test.YtaihigaafjmpiaaDoorAbc
import Derived.Test.YtaihigaafjmpiaaDoorAvo
namespace Go.Proofs.YtaihigaafjmpiaaDoor
open Go.RowKit
set_option linter.unusedVariables false

/-- A word put into an ordered list. -/
def ins (x : ByteArray) : List ByteArray → List ByteArray
  | [] => [x]
  | y :: l => if L x < L y then x :: y :: l else if x = y then y :: l else y :: ins x l
theorem ins_mem (x : ByteArray) : ∀ (l : List ByteArray) (y : ByteArray), y ∈ ins x l ↔ y ∈ l ∨ y = x
  | [], y => by simp [ins]
  | z :: l, y => by
    unfold ins
    split
    · simp only [List.mem_cons]; constructor
      · rintro (h | h | h)
        · exact .inr h
        · exact .inl (.inl h)
        · exact .inl (.inr h)
      · rintro ((h | h) | h)
        · exact .inr (.inl h)
        · exact .inr (.inr h)
        · exact .inl h
    · split
      · rename_i h1 h2
        subst h2
        simp only [List.mem_cons]; constructor
        · exact .inl
        · rintro (h | h)
          · exact h
          · exact .inl h
      · simp only [List.mem_cons, ins_mem x l]; constructor
        · rintro (h | h | h)
          · exact .inl (.inl h)
          · exact .inl (.inr h)
          · exact .inr h
        · rintro ((h | h) | h)
          · exact .inl h
          · exact .inr (.inl h)
          · exact .inr (.inr h)
theorem lt_of_not {x y : ByteArray} (h1 : ¬ L x < L y) (h2 : x ≠ y) : L y < L x := by
  rcases Classical.em (L y < L x) with h | h
  · exact h
  · exact absurd (ba_eq (List.le_antisymm h h1)) h2
theorem ins_ss (x : ByteArray) : ∀ {l : List ByteArray}, SS l → SS (ins x l)
  | [], _ => List.pairwise_singleton _ _
  | z :: l, h => by
    obtain ⟨hz, hl⟩ := List.pairwise_cons.1 h
    unfold ins
    split
    · rename_i h1
      exact List.pairwise_cons.2 ⟨fun y hy => by
        rcases List.mem_cons.1 hy with e | e
        · rw [e]; exact h1
        · exact List.lt_trans h1 (hz y e), h⟩
    · split
      · exact h
      · rename_i h1 h2
        refine List.pairwise_cons.2 ⟨fun y hy => ?_, ins_ss x hl⟩
        rcases (ins_mem x l y).1 hy with e | e
        · exact hz y e
        · rw [e]; exact lt_of_not h1 h2
theorem insB_ins {l : List ByteArray} (x : ByteArray) (h : SS l) : insB l x = ins x l :=
  ss_uniq (insB_ok x h).1 (ins_ss x h) fun y => by rw [(insB_ok x h).2, ins_mem]
theorem ins_take (x : ByteArray) : ∀ (l : List ByteArray) (n : Nat), (ins x l).take n = (ins x (l.take n)).take n
  | [], n => by simp
  | z :: l, 0 => by simp
  | z :: l, n + 1 => by
    rw [List.take_succ_cons]
    unfold ins
    split
    · rw [List.take_succ_cons, List.take_succ_cons]
      cases n with
      | zero => simp
      | succ n => rw [List.take_succ_cons, List.take_succ_cons, List.take_take]; congr 3; omega
    · split
      · rw [List.take_succ_cons, List.take_succ_cons, List.take_take, Nat.min_self]
      · rw [List.take_succ_cons, List.take_succ_cons, ins_take x l n]
theorem ins_far (x : ByteArray) : ∀ (l : List ByteArray) (n : Nat), n ≤ l.length → (∀ y ∈ l.take n, L y < L x) → (ins x l).take n = l.take n
  | [], n, h, _ => by have : n = 0 := by simpa using h
                      subst this; rfl
  | z :: l, 0, _, _ => by simp
  | z :: l, n + 1, h, hy => by
    rw [List.take_succ_cons] at hy ⊢
    have hz := hy z List.mem_cons_self
    unfold ins
    rw [if_neg (fun h2 => List.lt_irrefl _ (List.lt_trans h2 hz)), if_neg (fun h2 => by subst h2; exact List.lt_irrefl _ hz), List.take_succ_cons,
      ins_far x l n (by simpa using h) fun y h2 => hy y (List.mem_cons_of_mem _ h2)]
theorem ss_take {l : List ByteArray} (h : SS l) (n : Nat) : SS (l.take n) := h.sublist (List.take_sublist n l)
theorem insB_take {l : List ByteArray} (x : ByteArray) (n : Nat) (h : SS l) : (insB (l.take n) x).take n = (insB l x).take n := by
  rw [insB_ins x h, insB_ins x (ss_take h n), ← ins_take]
theorem insB_far {l : List ByteArray} (x : ByteArray) (n : Nat) (h : SS l) (hn : n ≤ l.length) (hx : ∀ y ∈ l.take n, L y < L x) : (insB l x).take n = l.take n := by
  rw [insB_ins x h, ins_far x l n hn hx]

/-- Words and each letter behind them. -/
def spr (l : List ByteArray) (k : Nat) : List ByteArray := l.flatMap fun v => (List.range k).map fun i => v ++ strOf [ltr i]
/-- All words of n letters. -/
def lay : Nat → List ByteArray
  | 0 => [strOf []]
  | n + 1 => spr (lay n) 4
/-- All words of at most n letters. -/
def lays : Nat → List ByteArray
  | 0 => lay 0
  | n + 1 => lays n ++ lay (n + 1)
theorem flat_take {α β : Type} (l : List α) (f : α → List β) {k : Nat} {x : α} (h : l[k]? = some x) : (l.take (k + 1)).flatMap f = (l.take k).flatMap f ++ f x := by
  rw [List.take_add_one, h, List.flatMap_append]; simp
theorem range_map {β : Type} (f : Nat → β) (k : Nat) : (List.range (k + 1)).map f = (List.range k).map f ++ [f k] := by
  rw [List.range_succ, List.map_append]; rfl
theorem spr_len (l : List ByteArray) (k : Nat) : (spr l k).length = l.length * k := by
  induction l with
  | nil => simp [spr]
  | cons x l ih => rw [spr, List.flatMap_cons, List.length_append, List.length_map, List.length_range, ← spr, ih, List.length_cons, Nat.succ_mul]; omega
theorem lay_len : ∀ n, (lay n).length = 4 ^ n
  | 0 => rfl
  | n + 1 => by rw [lay, spr_len, lay_len n, Nat.pow_succ]
theorem lay_size : ∀ n x, x ∈ lay n → x.size = n
  | 0, x, h => by rw [lay, List.mem_singleton] at h; subst h; rfl
  | n + 1, x, h => by
    rw [lay, spr, List.mem_flatMap] at h
    obtain ⟨v, hv, h2⟩ := h
    obtain ⟨i, _, rfl⟩ := List.mem_map.1 h2
    rw [ByteArray.size_append, lay_size n v hv, strOf_size]; rfl
/-- All letters of x are letters of s. -/
def allIn (s : ByteArray) (x : List UInt8) : Bool := x.all fun c => hasF s (strOf [c])
/-- Words made of letters of s alone. -/
def sprIn (s : ByteArray) (l : List ByteArray) : List ByteArray := l.flatMap fun v => ((List.range 4).filter fun i => hasF s (strOf [ltr i])).map fun i => v ++ strOf [ltr i]
def layIn (s : ByteArray) : Nat → List ByteArray
  | 0 => [strOf []]
  | n + 1 => sprIn s (layIn s n)
theorem L_app (a b : ByteArray) : L (a ++ b) = L a ++ L b := by simp [L, ByteArray.data_append]
theorem sprIn_eq (s : ByteArray) : ∀ l : List ByteArray, sprIn s (l.filter fun v => allIn s (L v)) = (spr l 4).filter fun v => allIn s (L v)
  | [] => rfl
  | x :: l => by
    have ih := sprIn_eq s l
    rw [spr, List.flatMap_cons, List.filter_append, ← spr, ← ih, List.filter_map]
    cases h : allIn s (L x)
    · rw [List.filter_cons_of_neg (by rw [h]; simp)]
      have : ((List.range 4).filter ((fun v => allIn s (L v)) ∘ fun i => x ++ strOf [ltr i])) = [] := by
        rw [List.filter_eq_nil_iff]; intro i _
        simp only [Function.comp, L_app, allIn, List.all_append]
        rw [allIn] at h; rw [h]; simp
      rw [this]; rfl
    · rw [List.filter_cons_of_pos (by simpa using h), sprIn, List.flatMap_cons, ← sprIn]
      congr 2
      refine List.filter_congr fun i _ => ?_
      simp only [Function.comp, L_app, allIn, List.all_append, strOf_L]
      rw [allIn] at h; rw [h]; simp
theorem layIn_eq (s : ByteArray) : ∀ n, layIn s n = (lay n).filter fun v => allIn s (L v)
  | 0 => rfl
  | n + 1 => by rw [layIn, layIn_eq s n, sprIn_eq]; rfl
/-- A word that s has not, but each of its two longest parts. -/
def lbQ (s f : ByteArray) : Bool := !hasF s f && hasF s (f.extract 1 f.size) && hasF s (f.extract 0 (f.size - 1))
def lbP (s f : ByteArray) : Bool := decide (f.size ≠ 0) && lbQ s f && allIn s (L f)
def lbAll (s : ByteArray) : List ByteArray := (lays 4).filter (lbP s)
def lbL (s : ByteArray) : List ByteArray := (insL (lbAll s)).take 8
theorem lay_filter (s : ByteArray) (n : Nat) : (layIn s (n + 1)).filter (lbQ s) = (lay (n + 1)).filter (lbP s) := by
  rw [layIn_eq, List.filter_filter]
  refine List.filter_congr fun x hx => ?_
  have := lay_size _ x hx
  rw [lbP, decide_eq_true (by omega)]; simp [Bool.and_comm]
theorem lay0_filter (s : ByteArray) : (lay 0).filter (lbP s) = [] := by
  rw [lay, List.filter_cons_of_neg, List.filter_nil]
  rw [lbP, decide_eq_false (by rw [strOf_size]; simp)]; simp
/-- What the program gathers. -/
def lbT (s : ByteArray) : Nat → List ByteArray
  | 0 => []
  | n + 1 => lbT s n ++ (layIn s (n + 1)).filter (lbQ s)
theorem lbT_eq (s : ByteArray) : ∀ n, lbT s n = (lays n).filter (lbP s)
  | 0 => (lay0_filter s).symm
  | n + 1 => by rw [lbT, lbT_eq s n, lay_filter, lays, List.filter_append]
def wkey (x : ByteArray) : Nat := (L x).foldl (fun a c => a * 5 + (c.toNat - 96)) 0
theorem lays4_nodup : (lays 4).Nodup := by
  have h : ((lays 4).map wkey).Nodup := by decide +kernel
  exact List.Pairwise.of_map wkey (fun a b h e => h (congrArg wkey e)) h
/-- The words of a list in order, if each stands in it once: by a sort. -/
theorem srt_ins {l : List ByteArray} (h : l.Nodup) : (srt l).map strOf = insL l := by
  have htr : ∀ a b c : List UInt8, decide (a ≤ b) = true → decide (b ≤ c) = true → decide (a ≤ c) = true := fun a b c h1 h2 => decide_eq_true (List.le_trans (of_decide_eq_true h1) (of_decide_eq_true h2))
  have htt : ∀ a b : List UInt8, (decide (a ≤ b) || decide (b ≤ a)) = true := fun a b => by
    rcases List.le_total a b with h | h
    · rw [decide_eq_true h]; rfl
    · rw [decide_eq_true h, Bool.or_true]
  have hp : (srt l).Pairwise fun a b => decide (a ≤ b) = true := List.pairwise_mergeSort (le := fun x y : List UInt8 => decide (x ≤ y)) htr htt (l.map L)
  have hperm := List.mergeSort_perm (l.map L) fun x y => decide (x ≤ y)
  have hnd : (srt l).Nodup := hperm.nodup_iff.2 (List.Pairwise.map L (fun a b h e => h (ba_eq e)) h)
  refine ss_uniq ?_ (insL_ss l) fun x => ?_
  · unfold SS
    rw [List.pairwise_map]
    have hb := hp.and hnd
    refine hb.imp fun {a b} ⟨h1, h2⟩ => ?_
    rw [strOf_L, strOf_L]
    rcases Classical.em (a < b) with h3 | h3
    · exact h3
    · exact absurd (List.le_antisymm (of_decide_eq_true h1) h3) h2
  · rw [insL_mem, List.mem_map]
    constructor
    · rintro ⟨y, hy, rfl⟩
      obtain ⟨z, hz, rfl⟩ := List.mem_map.1 ((hperm.mem_iff).1 hy)
      rw [L_strOf]; exact hz
    · intro hx
      exact ⟨L x, (hperm.mem_iff).2 (List.mem_map.2 ⟨x, hx, rfl⟩), L_strOf x⟩
theorem lbT_srt (s : ByteArray) : (srt (lbT s 4)).map strOf = insL (lbAll s) := by
  rw [lbT_eq, ← lbAll]; exact srt_ins (lays4_nodup.filter _)
end Go.Proofs.YtaihigaafjmpiaaDoor
