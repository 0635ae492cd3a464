/- Runs, plain: what the law FnRuns asks of the functions, with no program in sight. No condition. -/
import Derived.Test.YtfjmopiofcbpgaaSmo
import Derived.Test.YtfjmopiofcbpgaaLrn
namespace Go.Proofs.Ytfjmopiofcbpgaa
open Go.RowKit
set_option linter.unusedVariables false

/-- One more letter in the first run. -/
def bf : List Int → List Int
  | [] => []
  | x :: r => (x + 1) :: r
/-- The runs, told from the front. -/
def rl : List UInt8 → List Int
  | [] => []
  | [_] => [1]
  | a :: b :: l => if a = b then bf (rl (b :: l)) else 1 :: rl (b :: l)
theorem bump_cons (x : Int) {r : List Int} (h : r ≠ []) : bump (x :: r) = x :: bump r := by
  obtain ⟨r', y, rfl⟩ : ∃ a' x, r = a' ++ [x] := ⟨r.dropLast, r.getLast h, (List.dropLast_concat_getLast h).symm⟩
  rw [← List.cons_append, bump_snoc, bump_snoc]; rfl
theorem bf_bump {r : List Int} (h : r ≠ []) : bf (bump r) = bump (bf r) := by
  cases r with
  | nil => exact absurd rfl h
  | cons x r =>
    cases r with
    | nil => simp [bf, bump]
    | cons y r =>
      show bf (bump (x :: (y :: r))) = bump ((x + 1) :: (y :: r))
      rw [bump_cons x (r := y :: r) (by simp), bump_cons (x + 1) (r := y :: r) (by simp)]; rfl
theorem rl_two (a b : UInt8) (l : List UInt8) : rl (a :: b :: l) = if a = b then bf (rl (b :: l)) else 1 :: rl (b :: l) := by rw [rl]
theorem rg_cons (x : Int) : ∀ (l : List UInt8) (acc : List Int) (p : Option UInt8), acc ≠ [] → rg (x :: acc) p l = x :: rg acc p l
  | [], acc, p, h => rfl
  | b :: l, acc, p, h => by
    rw [rg, rg]
    have e : bump (opn (x :: acc) p b) = x :: bump (opn acc p b) := by
      unfold opn
      split
      · exact bump_cons x h
      · rw [List.cons_append, bump_cons x (by simp)]
    rw [e]
    refine rg_cons x l _ _ ?_
    unfold opn
    split
    · intro h2; have := congrArg List.length h2; rw [show (bump acc).length = acc.length by simp [bump]] at this; exact h (List.eq_nil_of_length_eq_zero (by simpa using this))
    · rw [bump_snoc]; simp
theorem rg_bf : ∀ (l : List UInt8) (acc : List Int) (p : Option UInt8), acc ≠ [] → rg (bf acc) p l = bf (rg acc p l)
  | [], acc, p, h => rfl
  | b :: l, acc, p, h => by
    obtain ⟨x, r, rfl⟩ : ∃ x r, acc = x :: r := by cases acc with
      | nil => exact absurd rfl h
      | cons x r => exact ⟨x, r, rfl⟩
    rw [rg, rg]
    have hne : bump (opn (x :: r) p b) ≠ [] := by
      unfold opn
      split
      · intro h2; have := congrArg List.length h2; simp [bump] at this
      · rw [bump_snoc]; simp
    have e : bump (opn (bf (x :: r)) p b) = bf (bump (opn (x :: r) p b)) := by
      unfold opn
      split
      · exact (bf_bump (by simp)).symm
      · exact (bf_bump (r := x :: (r ++ [0])) (by simp)).symm
    rw [e]
    exact rg_bf l _ _ hne
theorem rg_rl : ∀ (a : UInt8) (l : List UInt8), rg [1] (some a) l = rl (a :: l)
  | a, [] => rfl
  | a, b :: l => by
    rw [rg, rl]
    by_cases h : a = b
    · subst h
      rw [if_pos rfl, ← rg_rl a l, ← rg_bf _ _ _ (by simp)]
      unfold opn
      rw [if_pos rfl]
      rfl
    · rw [if_neg h, ← rg_rl b l]
      unfold opn
      rw [if_neg (by intro e; injection e with e; exact h e), bump_snoc]
      exact rg_cons 1 l [1] _ (by simp)
theorem runs_rl (l : List UInt8) : runsOf l = rl l := by
  cases l with
  | nil => rfl
  | cons a l => rw [← rg_rl]; rfl
theorem rl_ne : ∀ (l : List UInt8), l ≠ [] → rl l ≠ []
  | [], h => absurd rfl h
  | [_], _ => by simp [rl]
  | a :: b :: l, _ => by
    have ih := rl_ne (b :: l) (by simp)
    rw [rl]
    split
    · intro h2
      cases h3 : rl (b :: l) with
      | nil => exact ih h3
      | cons x r => rw [h3] at h2; simp [bf] at h2
    · simp
theorem rl_snoc : ∀ (m : List UInt8) (a c : UInt8), rl (m ++ [a] ++ [c]) = if a = c then bump (rl (m ++ [a])) else rl (m ++ [a]) ++ [1]
  | [], a, c => by
    simp only [List.nil_append, List.cons_append, rl]
    split <;> simp [bf, bump]
  | [x], a, c => by
    have ih := rl_snoc [] a c
    simp only [List.nil_append, List.cons_append] at ih ⊢
    rw [rl_two x a [c], rl_two x a [], ih]
    have hne := rl_ne [a] (by simp)
    by_cases h1 : x = a <;> by_cases h2 : a = c
    · rw [if_pos h1, if_pos h2, if_pos h2, if_pos h1, bf_bump hne]
    · rw [if_pos h1, if_neg h2, if_neg h2, if_pos h1]
      simp [rl, bf]
    · rw [if_neg h1, if_pos h2, if_pos h2, if_neg h1, bump_cons _ hne]
    · rw [if_neg h1, if_neg h2, if_neg h2, if_neg h1]; rfl
  | x :: y :: m, a, c => by
    have ih := rl_snoc (y :: m) a c
    simp only [List.cons_append] at ih ⊢
    rw [rl_two x y, ih, rl_two x y]
    have hne := rl_ne (y :: (m ++ [a])) (by simp)
    by_cases h1 : x = y <;> by_cases h2 : a = c
    · rw [if_pos h1, if_pos h2, if_pos h2, if_pos h1, bf_bump hne]
    · rw [if_pos h1, if_neg h2, if_neg h2, if_pos h1]
      cases h3 : rl (y :: (m ++ [a])) with
      | nil => exact absurd h3 hne
      | cons z r => rfl
    · rw [if_neg h1, if_pos h2, if_pos h2, if_neg h1, bump_cons _ hne]
    · rw [if_neg h1, if_neg h2, if_neg h2, if_neg h1]; rfl
theorem bump_rev {r : List Int} (h : r ≠ []) : bump r.reverse = (bf r).reverse := by
  cases r with
  | nil => exact absurd rfl h
  | cons x r => rw [List.reverse_cons, bump_snoc, bf, List.reverse_cons]
theorem rl_rev : ∀ (l : List UInt8), rl l.reverse = (rl l).reverse
  | [] => rfl
  | [_] => rfl
  | a :: b :: l => by
    have ih := rl_rev (b :: l)
    have hne := rl_ne (b :: l) (by simp)
    rw [List.reverse_cons, List.reverse_cons, rl_snoc, ← List.reverse_cons, ih, rl]
    by_cases h : a = b
    · rw [if_pos h.symm, if_pos h, bump_rev hne]
    · rw [if_neg (fun e => h e.symm), if_neg h, List.reverse_cons]
theorem rl_map (f : UInt8 → UInt8) : ∀ (l : List UInt8), (∀ x ∈ l, ∀ y ∈ l, f x = f y → x = y) → rl (l.map f) = rl l
  | [], _ => rfl
  | [_], _ => rfl
  | a :: b :: l, h => by
    have ih := rl_map f (b :: l) (fun x hx y hy => h x (List.mem_cons_of_mem _ hx) y (List.mem_cons_of_mem _ hy))
    simp only [List.map_cons] at ih ⊢
    rw [rl, rl, ih]
    by_cases e : a = b
    · rw [if_pos e, if_pos (by rw [e])]
    · rw [if_neg e, if_neg (fun e2 => e (h a (by simp) b (by simp) e2))]
theorem sw_inj {l : List UInt8} (h : binW l = true) : ∀ x ∈ l, ∀ y ∈ l, swC x = swC y → x = y := by
  intro x hx y hy e
  obtain ⟨i, hi⟩ := List.getElem?_of_mem hx
  obtain ⟨j, hj⟩ := List.getElem?_of_mem hy
  obtain ⟨x1, x2⟩ := bin_at h hi
  obtain ⟨y1, y2⟩ := bin_at h hj
  have e1 := swC_nat x1 x2
  have e2 := swC_nat y1 y2
  rw [e] at e1
  exact UInt8.toNat_inj.1 (by omega)
theorem runs_sw {l : List UInt8} (h : binW l = true) : runsOf (swW l) = runsOf l := by
  rw [runs_rl, runs_rl, swW, rl_map _ _ (sw_inj h)]
theorem runs_rev (l : List UInt8) : runsOf l.reverse = (runsOf l).reverse := by rw [runs_rl, runs_rl, rl_rev]
theorem sw_sw {l : List UInt8} (h : binW l = true) : swW (swW l) = l := by
  rw [swW, swW, List.map_map]
  refine (List.map_congr_left fun x hx => ?_).trans (List.map_id l)
  obtain ⟨i, hi⟩ := List.getElem?_of_mem hx
  obtain ⟨x1, x2⟩ := bin_at h hi
  have e1 := swC_nat x1 x2
  have e2 := swC_nat (b := swC x) (by omega) (by omega)
  exact UInt8.toNat_inj.1 (by simp only [Function.comp, id]; omega)
theorem sw_bin {l : List UInt8} (h : binW l = true) : binW (swW l) = true := by
  have h0 := h
  unfold binW isW winL at h ⊢
  simp only [Bool.and_eq_true, List.all_eq_true, decide_eq_true_eq] at h ⊢
  have hx : ∀ x ∈ swW l, 97 ≤ x.toNat ∧ x.toNat ≤ 98 := fun x hx => by
    obtain ⟨y, hy, rfl⟩ := List.mem_map.1 hx
    obtain ⟨i, hi⟩ := List.getElem?_of_mem hy
    obtain ⟨x1, x2⟩ := bin_at h0 hi
    have := swC_nat x1 x2
    omega
  refine ⟨⟨fun x h3 => ?_, by rw [swW_length]; exact h.1.2⟩, fun x h3 => by have := hx x h3; omega⟩
  have := hx x h3
  unfold okc
  exact decide_eq_true (by omega)
theorem rev_bin {l : List UInt8} (h : binW l = true) : binW l.reverse = true := by
  unfold binW isW winL at h ⊢
  simp only [Bool.and_eq_true, List.all_eq_true, decide_eq_true_eq, List.length_reverse, List.mem_reverse] at h ⊢
  exact h
theorem part_bin {l : List UInt8} (h : binW l = true) (i n : Nat) : binW ((l.drop i).take n) = true := by
  unfold binW isW winL at h ⊢
  simp only [Bool.and_eq_true, List.all_eq_true, decide_eq_true_eq] at h ⊢
  refine ⟨⟨fun x hx => h.1.1 x (List.mem_of_mem_drop (List.mem_of_mem_take hx)), ?_⟩, fun x hx => h.2 x (List.mem_of_mem_drop (List.mem_of_mem_take hx))⟩
  have := h.1.2
  rw [List.length_take, List.length_drop]; omega

/-- The inner runs of two runs or more. -/
theorem strip_form (x y : Int) (m : List Int) : strip (x :: (m ++ [y])) = (if x = 1 then [] else [x]) ++ m ++ (if y = 1 then [] else [y]) := by
  unfold strip
  rw [if_neg (by simp)]
  have hc : cut1 (x :: (m ++ [y])) = x :: m ++ (if y = 1 then [] else [y]) := by
    unfold cut1
    rw [← List.cons_append]
    have hl : ((x :: m) ++ [y]).length - 1 = (x :: m).length := by simp
    rw [hl, List.getD_eq_getElem?_getD, List.getElem?_append_right (Nat.le_refl _), Nat.sub_self]
    simp only [List.getElem?_cons_zero, Option.getD_some]
    split
    · rw [List.take_left]; simp
    · rfl
  rw [hc]
  unfold cut2
  simp only [List.cons_append, List.getD_cons_zero, List.drop_one, List.tail_cons]
  split <;> simp
theorem two_form {r : List Int} (h : 2 ≤ r.length) : ∃ x m y, r = x :: (m ++ [y]) := by
  cases r with
  | nil => simp at h
  | cons x r =>
    have hr : r ≠ [] := by intro e; subst e; simp at h
    exact ⟨x, r.dropLast, r.getLast hr, by rw [List.dropLast_concat_getLast hr]⟩
theorem strip_rev (r : List Int) : strip r.reverse = (strip r).reverse := by
  by_cases h : r.length < 2
  · unfold strip
    rw [if_pos (by rw [List.length_reverse]; exact h), if_pos h]
  · obtain ⟨x, m, y, rfl⟩ := two_form (r := r) (by omega)
    have e : (x :: (m ++ [y])).reverse = y :: (m.reverse ++ [x]) := by simp
    rw [e, strip_form, strip_form]
    by_cases hx : x = 1 <;> by_cases hy : y = 1 <;> simp [hx, hy]
theorem small_rev (r : List Int) : small r.reverse = small r := by unfold small; rw [List.all_reverse]
theorem smooth_rev : ∀ (n : Nat) (l : List UInt8), l.length ≤ n → smoothL l.reverse = smoothL l
  | n, l, hn => by
    by_cases h : l.length < 2
    · rw [smooth_le h, smooth_le (by rw [List.length_reverse]; exact h)]
    · have hs := inW_short l (by omega)
      match n, hn with
      | 0, hn => omega
      | n + 1, hn =>
        rw [smooth_step h, smooth_step (l := l.reverse) (by rw [List.length_reverse]; exact h)]
        have e1 : inB l.reverse = inB l := by unfold inB; rw [runs_rev, small_rev]
        have e2 : inW l.reverse = (inW l).reverse := by unfold inW; rw [runs_rev, strip_rev, List.map_reverse]
        rw [e1, e2, smooth_rev n (inW l) (by omega)]
theorem smooth_sw {l : List UInt8} (h : binW l = true) : smoothL (swW l) = smoothL l := by
  by_cases h2 : l.length < 2
  · rw [smooth_le h2, smooth_le (by rw [swW_length]; exact h2)]
  · rw [smooth_step h2, smooth_step (by rw [swW_length]; exact h2)]
    unfold inB inW
    rw [runs_sw h]
/-- A smooth word without its last letter is smooth. -/
theorem smooth_init : ∀ (n : Nat) (m : List UInt8) (c : UInt8), m.length ≤ n → smoothL (m ++ [c]) = true → smoothL m = true
  | n, m, c, hn, hs => by
    by_cases h : m.length < 2
    · exact smooth_le h
    · match n, hn with
      | 0, hn => omega
      | n + 1, hn =>
        have hl2 : ¬ (m ++ [c]).length < 2 := by rw [List.length_append]; omega
        rw [smooth_step hl2, Bool.and_eq_true] at hs
        obtain ⟨hs1, hs2⟩ := hs
        have hsh := inW_short m (by omega)
        obtain ⟨m0, a, rfl⟩ : ∃ a' x, m = a' ++ [x] := ⟨m.dropLast, m.getLast (by intro e; subst e; simp at h), (List.dropLast_concat_getLast _).symm⟩
        have hrs := rl_snoc m0 a c
        rw [smooth_step h, Bool.and_eq_true]
        unfold inB at hs1 ⊢
        unfold inW at hs2 ⊢
        unfold inW at hsh
        rw [runs_rl] at hs1 hs2 hsh ⊢
        have hpos := (runs_ok (m0 ++ [a])).pos
        rw [runs_rl] at hpos
        rw [hrs] at hs1 hs2
        clear hrs
        have hrne := rl_ne (m0 ++ [a]) (by simp)
        generalize rl (m0 ++ [a]) = r at hs1 hs2 hsh hpos hrne ⊢
        have hsm : small r = true := by
          split at hs1
          · obtain ⟨r', y, rfl⟩ : ∃ a' x, r = a' ++ [x] := ⟨r.dropLast, r.getLast hrne, (List.dropLast_concat_getLast hrne).symm⟩
            rw [bump_snoc, small_append, Bool.and_eq_true] at hs1
            rw [small_append, hs1.1]
            have := hs1.2
            simp only [small, List.all_cons, List.all_nil, Bool.and_true, decide_eq_true_eq, Bool.true_and] at this ⊢
            omega
          · rw [small_append, Bool.and_eq_true] at hs1; exact hs1.1
        refine ⟨hsm, ?_⟩
        by_cases hr2 : r.length < 2
        · refine smooth_le ?_
          have := strip_len r
          rw [List.length_map]; omega
        · obtain ⟨x, md, y, rfl⟩ := two_form (r := r) (by omega)
          rw [strip_form] at hsh ⊢
          have fin : ∀ (p : List Int) (q : List Int), (p = q ∨ ∃ z, q = p ++ [z]) → (p.map lw).length < (m0 ++ [a]).length → smoothL (q.map lw) = true → smoothL (p.map lw) = true := fun p q hpq hlt hq => by
            rcases hpq with rfl | ⟨z, rfl⟩
            · exact hq
            · rw [List.map_append] at hq
              exact smooth_init n (p.map lw) (lw z) (by omega) hq
          split at hs2
          · rename_i hac
            rw [if_pos hac] at hs1
            rw [← List.cons_append, bump_snoc] at hs1 hs2
            rw [List.cons_append, strip_form] at hs2
            have hy1 : y = 1 := by
              rw [small_append, Bool.and_eq_true] at hs1
              have h3 := hs1.2
              have h4 := hpos y (by simp)
              simp only [small, List.all_cons, List.all_nil, Bool.and_true, decide_eq_true_eq] at h3
              omega
            subst hy1
            refine fin _ _ ?_ hsh hs2
            right
            exact ⟨1 + 1, by simp⟩
          · rename_i hac
            rw [if_neg hac] at hs1
            have e : x :: (md ++ [y]) ++ [1] = x :: ((md ++ [y]) ++ [1]) := rfl
            rw [e, strip_form] at hs2
            refine fin _ _ ?_ hsh hs2
            by_cases hy1 : y = 1
            · subst hy1
              right
              exact ⟨1, by simp⟩
            · left; simp [hy1]
theorem smooth_front (a : List UInt8) : ∀ b : List UInt8, smoothL (a ++ b) = true → smoothL a = true := by
  intro b
  induction b generalizing a with
  | nil => intro h; rwa [List.append_nil] at h
  | cons c b ih =>
    intro h
    rw [show a ++ c :: b = (a ++ [c]) ++ b by simp] at h
    exact smooth_init _ a c (Nat.le_refl _) (ih (a ++ [c]) h)
theorem smooth_part {l : List UInt8} (h : smoothL l = true) (i n : Nat) : smoothL ((l.drop i).take n) = true := by
  have h1 : smoothL (l.drop i) = true := by
    rw [← List.take_append_drop i l, ← smooth_rev _ _ (Nat.le_refl _), List.reverse_append] at h
    have := smooth_front _ _ h
    rwa [smooth_rev _ _ (Nat.le_refl _)] at this
  rw [← List.take_append_drop n (l.drop i)] at h1
  exact smooth_front _ _ h1

/-- What FromRuns lays of runs. -/
def alt (c : UInt8) : List Int → List UInt8
  | [] => []
  | n :: r => List.replicate n.toNat c ++ alt (swC c) r
theorem alt_rl : ∀ (a : UInt8) (l : List UInt8), binW (a :: l) = true → alt a (rl (a :: l)) = a :: l
  | a, [], _ => rfl
  | a, b :: l, h => by
    have hb : binW (b :: l) = true := part_bin h 1 (b :: l).length ▸ by simp
    have ih := alt_rl b l hb
    rw [rl]
    by_cases e : a = b
    · subst e
      rw [if_pos rfl]
      have hne := rl_ne (a :: l) (by simp)
      have hpos := (runs_ok (a :: l)).pos
      rw [runs_rl] at hpos
      cases hr : rl (a :: l) with
      | nil => exact absurd hr hne
      | cons x r =>
        rw [hr] at ih hpos
        have hx := hpos x (by simp)
        rw [bf, alt]
        rw [alt] at ih
        rw [show (x + 1).toNat = x.toNat + 1 by omega, List.replicate_succ, List.cons_append, ih]
    · rw [if_neg e, alt]
      have h1 : swC a = b := by
        obtain ⟨x1, x2⟩ := bin_at h (k := 0) (b := a) rfl
        obtain ⟨y1, y2⟩ := bin_at h (k := 1) (b := b) rfl
        have := swC_nat x1 x2
        have hne : a.toNat ≠ b.toNat := fun e2 => e (UInt8.toNat_inj.1 e2)
        exact UInt8.toNat_inj.1 (by omega)
      rw [h1, ih]; rfl
theorem alt_runs (a : UInt8) (l : List UInt8) (h : binW (a :: l) = true) : alt a (runsOf (a :: l)) = a :: l := by rw [runs_rl]; exact alt_rl a l h
theorem lw_bin (r : List Int) (h : r.length ≤ 400) : binW (r.map lw) = true := by
  unfold binW isW winL
  simp only [Bool.and_eq_true, List.all_eq_true, decide_eq_true_eq, List.length_map]
  have hx : ∀ x ∈ r.map lw, x = 97 ∨ x = 98 := fun x hx => by
    obtain ⟨v, _, rfl⟩ := List.mem_map.1 hx
    unfold lw; split
    · exact .inl rfl
    · exact .inr rfl
  refine ⟨⟨fun x h3 => ?_, h⟩, fun x h3 => ?_⟩
  · rcases hx x h3 with rfl | rfl <;> rfl
  · rcases hx x h3 with rfl | rfl <;> decide
end Go.Proofs.Ytfjmopiofcbpgaa
