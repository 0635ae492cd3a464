/- Words that avoid a ban, plain: how many there are, the first of them; a ban turned; no condition but that the ban is one. -/
import Derived.Test.YtaihigaafjmpiaaDoorFap
import Derived.Test.YtaihigaafjmpiaaDoorUnp
import Derived.Test.YtaihigaafjmpiaaDoorLwk
namespace Go.Proofs.YtaihigaafjmpiaaDoor
open Go.RowKit
set_option linter.unusedVariables false

theorem sumTo_congr {f g : Nat → Nat} : ∀ (m : Nat), (∀ j, j < m → f j = g j) → sumTo f m = sumTo g m
  | 0, _ => rfl
  | m + 1, h => by rw [sumTo, sumTo, sumTo_congr m (fun j hj => h j (by omega)), h m (by omega)]
/-- All lists of n letters of the first m, by number. -/
def dK (m : Nat) : Nat → List (List Nat)
  | 0 => [[]]
  | n + 1 => (List.range m).flatMap fun j => (dK m n).map (j :: ·)
def ouK (y : List Nat) : ByteArray := strOf (y.map ltr)
theorem ouK_cons (o : ByteArray) (j : Nat) (y : List Nat) : o ++ ouK (j :: y) = (o ++ strOf [ltr j]) ++ ouK y := by
  refine bytes_ext ?_
  simp [ouK, strOf, ByteArray.data_append]
theorem ouK_nil (o : ByteArray) : o ++ ouK [] = o := by
  refine bytes_ext ?_
  simp [ouK, strOf, ByteArray.data_append]
theorem dK_mem (m : Nat) : ∀ n y, y ∈ dK m n ↔ y.length = n ∧ ∀ j ∈ y, j < m
  | 0, y => by
    simp only [dK, List.mem_singleton]
    constructor
    · rintro rfl; exact ⟨rfl, fun j hj => by cases hj⟩
    · rintro ⟨h, _⟩; exact List.eq_nil_of_length_eq_zero h
  | n + 1, y => by
    simp only [dK, List.mem_flatMap, List.mem_range, List.mem_map]
    constructor
    · rintro ⟨j, hj, x, hx, rfl⟩
      obtain ⟨h1, h2⟩ := (dK_mem m n x).1 hx
      refine ⟨by rw [List.length_cons, h1], fun i hi => ?_⟩
      rcases List.mem_cons.1 hi with rfl | hi
      · exact hj
      · exact h2 i hi
    · rintro ⟨h1, h2⟩
      cases y with
      | nil => simp at h1
      | cons j y => exact ⟨j, h2 j (by simp), y, (dK_mem m n y).2 ⟨by simpa using h1, fun i hi => h2 i (List.mem_cons_of_mem _ hi)⟩, rfl⟩
theorem avoids_pre {ban : List ByteArray} {o y : ByteArray} (h : avoidsB (o ++ y) ban = true) : avoidsB o ban = true := by
  rw [avoidsB_iff] at h ⊢
  intro f hf hin
  refine h f hf (hin.trans ?_)
  exact ⟨[], L y, by simp [L, ByteArray.data_append]⟩
/-- How many of the words o and n letters more avoid the ban. -/
def avN (ban : List ByteArray) (m n : Nat) (o : ByteArray) : Nat := ((dK m n).filter fun y => avoidsB (o ++ ouK y) ban).length
theorem flat_cnt (p : List Nat → Bool) (f : Nat → List (List Nat)) : ∀ m, (((List.range m).flatMap f).filter p).length = sumTo (fun j => ((f j).filter p).length) m
  | 0 => rfl
  | m + 1 => by
    rw [List.range_succ, List.flatMap_append, List.filter_append, List.length_append, flat_cnt p f m, sumTo]
    simp
theorem cnt_av {ban : List ByteArray} (hb : banOk ban = true) (m : Nat) : ∀ (n : Nat) (o : ByteArray), avoidsB o ban = true → avN ban m n o = cnt ban m n (tl3 o)
  | 0, o, ho => by
    unfold avN
    rw [dK, cnt]
    have : avoidsB (o ++ ouK []) ban = true := by rw [ouK_nil]; exact ho
    simp [this]
  | n + 1, o, ho => by
    unfold avN
    rw [dK, flat_cnt, cnt]
    refine sumTo_congr m fun j _ => ?_
    rw [List.filter_map, List.length_map, ← avoids_tl hb ho, tl3_tl]
    cases h : avoidsB (o ++ strOf [ltr j]) ban with
    | true =>
      rw [if_pos rfl, ← cnt_av hb m n _ h]
      unfold avN
      congr 1
      refine List.filter_congr fun y _ => ?_
      simp only [Function.comp]
      rw [ouK_cons]
    | false =>
      rw [if_neg (by decide)]
      rw [List.filter_eq_nil_iff.2]
      · rfl
      · intro y _ hy
        simp only [Function.comp] at hy
        rw [ouK_cons] at hy
        rw [avoids_pre hy] at h; cases h
theorem avoids_nil {ban : List ByteArray} (hb : banOk ban = true) : avoidsB ByteArray.empty ban = true := by
  rw [avoidsB_iff]
  rintro f hf ⟨a, b, h⟩
  have h1 := (ban_len hb hf).1
  have := congrArg List.length h
  rw [List.length_append, List.length_append, L_len, L_len] at this
  have h0 : ByteArray.empty.size = 0 := rfl
  omega
theorem tl3_nil : tl3 ByteArray.empty = ByteArray.empty := by rfl
/-- The number that CountAvoiding reckons is the number of words. -/
theorem cnt_words {ban : List ByteArray} (hb : banOk ban = true) (m n : Nat) : cnt ban m n ByteArray.empty = avN ban m n ByteArray.empty := by
  rw [cnt_av hb m n _ (avoids_nil hb), tl3_nil]
theorem emp_app (y : ByteArray) : ByteArray.empty ++ y = y := bytes_ext (by simp)
/-- Bans that forbid the same words count the same. -/
theorem avN_congr {b1 b2 : List ByteArray} (h : ∀ x, avoidsB x b1 = avoidsB x b2) (m n : Nat) (o : ByteArray) : avN b1 m n o = avN b2 m n o := by
  unfold avN
  congr 1
  exact List.filter_congr fun y _ => h _
theorem dK_nodup (m : Nat) : ∀ n, (dK m n).Nodup
  | 0 => by simp [dK]
  | n + 1 => by
    have ih := dK_nodup m n
    have key : ∀ k, ((List.range k).flatMap fun j => (dK m n).map (j :: ·)).Nodup := fun k => by
      induction k with
      | zero => exact List.nodup_nil
      | succ k ihk =>
        rw [List.range_succ, List.flatMap_append, List.nodup_append]
        refine ⟨ihk, ?_, fun a ha b hb => ?_⟩
        · simp only [List.flatMap_cons, List.flatMap_nil, List.append_nil]
          exact nodup_inj _ ih (fun x _ y _ h => by injection h)
        · rintro rfl
          rw [List.mem_flatMap] at ha hb
          obtain ⟨i, hi, hx⟩ := ha
          obtain ⟨x, _, hx2⟩ := List.mem_map.1 hx
          rw [List.mem_range] at hi
          rw [← hx2] at hb
          obtain ⟨i', hi', hx'⟩ := hb
          obtain ⟨x', _, hx2'⟩ := List.mem_map.1 hx'
          injection hx2' with h1 _
          simp at hi'
          omega
    exact key m
/-- Counting words turned is counting words. -/
theorem rev_count (m n : Nat) (p : List Nat → Bool) : ((dK m n).filter p).length = ((dK m n).filter fun y => p y.reverse).length := by
  have hperm : ((dK m n).map List.reverse).Perm (dK m n) := by
    refine (List.perm_ext_iff_of_nodup ?_ (dK_nodup m n)).2 fun y => ?_
    · exact nodup_inj _ (dK_nodup m n) (fun x _ y _ h => by have := congrArg List.reverse h; simpa using this)
    · rw [List.mem_map, dK_mem]
      constructor
      · rintro ⟨x, hx, rfl⟩
        obtain ⟨h1, h2⟩ := (dK_mem m n x).1 hx
        exact ⟨by rw [List.length_reverse, h1], fun j hj => h2 j (List.mem_reverse.1 hj)⟩
      · rintro ⟨h1, h2⟩
        exact ⟨y.reverse, (dK_mem m n _).2 ⟨by rw [List.length_reverse, h1], fun j hj => h2 j (List.mem_reverse.1 hj)⟩, by simp⟩
  have h := (hperm.filter p).length_eq
  rw [← h, List.filter_map, List.length_map]
  rfl
/-- There is a word of n letters that avoids the ban just if the count is not nothing. -/
theorem avN_pos (ban : List ByteArray) (m n : Nat) (o : ByteArray) : 0 < avN ban m n o ↔ ∃ y : List Nat, y.length = n ∧ (∀ j ∈ y, j < m) ∧ avoidsB (o ++ ouK y) ban = true := by
  unfold avN
  rw [List.length_pos_iff_exists_mem]
  constructor
  · rintro ⟨y, hy⟩
    obtain ⟨h1, h2⟩ := List.mem_filter.1 hy
    obtain ⟨h3, h4⟩ := (dK_mem m n y).1 h1
    exact ⟨y, h3, h4, h2⟩
  · rintro ⟨y, h1, h2, h3⟩
    exact ⟨y, List.mem_filter.2 ⟨(dK_mem m n y).2 ⟨h1, h2⟩, h3⟩⟩
/-- Ends of words that avoid the ban. -/
theorem ess_iff {ban : List ByteArray} (hb : banOk ban = true) (m : Nat) : ∀ (n : Nat) (x : ByteArray), x ∈ ess ban m n ↔ ∃ o : ByteArray, (∃ y : List Nat, y.length = n ∧ (∀ j ∈ y, j < m) ∧ o = ouK y) ∧ avoidsB o ban = true ∧ tl3 o = x
  | 0, x => by
    rw [ess_zero, List.mem_singleton]
    constructor
    · rintro rfl
      exact ⟨ByteArray.empty, ⟨[], rfl, (fun j hj => by cases hj), by rfl⟩, avoids_nil hb, tl3_nil⟩
    · rintro ⟨o, ⟨y, h1, _, rfl⟩, _, rfl⟩
      rw [List.eq_nil_of_length_eq_zero h1]; rfl
  | n + 1, x => by
    rw [ess_succ, mem_nst]
    have hsn : ∀ (y : List Nat) (j : Nat), ouK (y ++ [j]) = ouK y ++ strOf [ltr j] := fun y j => by
      refine bytes_ext ?_
      simp [ouK, strOf, ByteArray.data_append]
    constructor
    · rintro ⟨e, he, j, hj, ha, rfl⟩
      obtain ⟨o, ⟨y, h1, h2, rfl⟩, h3, rfl⟩ := (ess_iff hb m n e).1 he
      refine ⟨ouK (y ++ [j]), ⟨y ++ [j], by simp [h1], fun i hi => ?_, rfl⟩, ?_, ?_⟩
      · rcases List.mem_append.1 hi with hi | hi
        · exact h2 i hi
        · rw [List.mem_singleton] at hi; omega
      · rw [hsn, avoids_tl hb h3]; exact ha
      · rw [hsn, tl3_tl]
    · rintro ⟨o, ⟨y, h1, h2, rfl⟩, h3, rfl⟩
      have hne : y ≠ [] := by intro e; subst e; simp at h1
      obtain ⟨y', j, rfl⟩ : ∃ a b, y = a ++ [b] := ⟨y.dropLast, y.getLast hne, (List.dropLast_concat_getLast hne).symm⟩
      rw [hsn] at h3
      have h4 := avoids_pre h3
      refine ⟨tl3 (ouK y'), (ess_iff hb m n _).2 ⟨ouK y', ⟨y', by simp at h1; omega, fun i hi => h2 i (List.mem_append_left _ hi), rfl⟩, h4, rfl⟩, j, h2 j (by simp), ?_, ?_⟩
      · rw [← avoids_tl hb h4]; exact h3
      · rw [hsn, tl3_tl]
theorem un_iff {ban : List ByteArray} (hb : banOk ban = true) {m : Nat} (h1 : 1 ≤ m) (h4 : m ≤ 4) : unV m ban = decide (avN ban m 68 ByteArray.empty = 0) := by
  unfold unV
  rw [hb, decide_eq_true (show (1 : Int) ≤ (m : Int) ∧ (m : Int) ≤ 4 by omega), Int.toNat_natCast, Bool.true_and, Bool.true_and, Bool.eq_iff_iff, decide_eq_true_eq, List.isEmpty_iff]
  have hp := avN_pos ban m 68 ByteArray.empty
  constructor
  · intro h
    rcases Nat.eq_zero_or_pos (avN ban m 68 ByteArray.empty) with h0 | h0
    · exact h0
    · obtain ⟨y, g1, g2, g3⟩ := hp.1 h0
      rw [emp_app] at g3
      have := (ess_iff hb m 68 (tl3 (ouK y))).2 ⟨ouK y, ⟨y, g1, g2, rfl⟩, g3, rfl⟩
      rw [h] at this; cases this
  · intro h
    refine List.eq_nil_iff_forall_not_mem.2 fun x hx => ?_
    obtain ⟨o, ⟨y, g1, g2, rfl⟩, g3, _⟩ := (ess_iff hb m 68 x).1 hx
    have := hp.2 ⟨y, g1, g2, by rw [emp_app]; exact g3⟩
    omega
end Go.Proofs.YtaihigaafjmpiaaDoor
