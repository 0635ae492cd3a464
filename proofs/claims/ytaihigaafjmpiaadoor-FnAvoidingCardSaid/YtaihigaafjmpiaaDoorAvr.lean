/- Words that avoid a ban, plain: reduced, turned, unavoidable bans, the first word, the least bans of a word. No condition but the bounds. -/
import Derived.Test.YtaihigaafjmpiaaDoorAvp
import Derived.Test.YtaihigaafjmpiaaDoorRdb
import Derived.Test.YtaihigaafjmpiaaDoorCaw
import Derived.Test.YtaihigaafjmpiaaDoorLbp
import Derived.Test.YtaihigaafjmpiaaDoorLba
import Derived.Test.YtaihigaafjmpiaaDoorIsf
namespace Go.Proofs.YtaihigaafjmpiaaDoor
open Go.RowKit
set_option linter.unusedVariables false

theorem inf_size {f g : ByteArray} (h : L g <:+: L f) : g.size ≤ f.size := by
  have := h.length_le
  rwa [L_len, L_len] at this
theorem inf_same {f g : ByteArray} (h : L g <:+: L f) (hs : f.size ≤ g.size) : g = f := by
  obtain ⟨a, b, e⟩ := h
  have h1 := congrArg List.length e
  rw [List.length_append, List.length_append, L_len, L_len] at h1
  have ha : a = [] := List.eq_nil_of_length_eq_zero (by omega)
  have hb : b = [] := List.eq_nil_of_length_eq_zero (by omega)
  subst ha hb
  exact bytes_ext (by simpa using e)
/-- Each word of a ban holds one that stays. -/
theorem rb_ex (b : List ByteArray) : ∀ (n : Nat) (f : ByteArray), f.size ≤ n → f ∈ b → ∃ g, g ∈ b ∧ rbK b g = true ∧ L g <:+: L f
  | n, f, hn, hf => by
    cases h : rbK b f with
    | true => exact ⟨f, hf, h, List.infix_rfl⟩
    | false =>
      unfold rbK at h
      rw [List.all_eq_false] at h
      obtain ⟨g, hg, hgf⟩ := h
      unfold rbP at hgf
      simp only [Bool.or_eq_true, decide_eq_true_eq, Bool.not_eq_true', not_or, Bool.not_eq_false] at hgf
      obtain ⟨hne, hfac⟩ := hgf
      rw [hasF_iff] at hfac
      have hlt : g.size < f.size := by
        rcases Nat.lt_or_ge g.size f.size with h | h
        · exact h
        · exact absurd (inf_same hfac h) hne
      match n, hn with
      | 0, hn => omega
      | n + 1, hn =>
        obtain ⟨g2, h1, h2, h3⟩ := rb_ex b n g (by omega) hg
        exact ⟨g2, h1, h2, h3.trans hfac⟩
theorem rb_mem (b : List ByteArray) (g : ByteArray) : g ∈ rbL b ↔ g ∈ b ∧ rbK b g = true := by
  unfold rbL; rw [insL_mem, List.mem_filter]
theorem rb_has (b : List ByteArray) {f : ByteArray} (hf : f ∈ b) : ∃ g ∈ rbL b, hasF f g = true := by
  obtain ⟨g, h1, h2, h3⟩ := rb_ex b _ f (Nat.le_refl _) hf
  exact ⟨g, (rb_mem b g).2 ⟨h1, h2⟩, (hasF_iff f g).2 h3⟩
theorem avoids_rb (b : List ByteArray) (x : ByteArray) : avoidsB x (rbL b) = avoidsB x b := by
  rw [Bool.eq_iff_iff, avoidsB_iff, avoidsB_iff]
  constructor
  · intro h f hf hin
    obtain ⟨g, hg, hgf⟩ := rb_has b hf
    rw [hasF_iff] at hgf
    exact h g hg (hgf.trans hin)
  · intro h f hf; exact h f ((rb_mem b f).1 hf).1
theorem rb_length (b : List ByteArray) : (rbL b).length ≤ b.length := by
  unfold rbL
  exact Nat.le_trans (insL_len _) (List.length_filter_le _ _)
theorem rb_ok {b : List ByteArray} (h : banOk b = true) : banOk (rbL b) = true := by
  have hl := rb_length b
  unfold banOk at h ⊢
  simp only [Bool.and_eq_true, List.all_eq_true, decide_eq_true_eq] at h ⊢
  exact ⟨fun f hf => h.1 f ((rb_mem b f).1 hf).1, by omega⟩
/-- A ban whose words are turned. -/
theorem avoids_turn {b : List ByteArray} {tr : ByteArray → ByteArray} (htr : ∀ f, L (tr f) = (L f).reverse) (x : ByteArray) : avoidsB (tr x) (b.map tr) = avoidsB x b := by
  rw [Bool.eq_iff_iff, avoidsB_iff, avoidsB_iff]
  constructor
  · intro h f hf hin
    refine h (tr f) (List.mem_map.2 ⟨f, hf, rfl⟩) ?_
    rw [htr, htr]; exact List.reverse_infix.2 hin
  · intro h f hf hin
    obtain ⟨g, hg, rfl⟩ := List.mem_map.1 hf
    rw [htr, htr] at hin
    exact h g hg (List.reverse_infix.1 hin)
theorem avN_turn {b : List ByteArray} {tr : ByteArray → ByteArray} (htr : ∀ f, L (tr f) = (L f).reverse) (m n : Nat) : avN (b.map tr) m n ByteArray.empty = avN b m n ByteArray.empty := by
  unfold avN
  rw [rev_count]
  congr 1
  refine List.filter_congr fun y _ => ?_
  rw [emp_app, emp_app]
  have : ouK y.reverse = tr (ouK y) := bytes_ext (show L (ouK y.reverse) = L (tr (ouK y)) by
    rw [htr]
    unfold ouK
    rw [strOf_L, strOf_L, List.map_reverse])
  rw [this, avoids_turn htr]
/-- No words of many letters where there are none of few. -/
theorem avN_zero {b : List ByteArray} {m n k : Nat} (hk : n ≤ k) (h : avN b m n ByteArray.empty = 0) : avN b m k ByteArray.empty = 0 := by
  rcases Nat.eq_zero_or_pos (avN b m k ByteArray.empty) with h0 | h0
  · exact h0
  · exfalso
    obtain ⟨y, h1, h2, h3⟩ := (avN_pos b m k _).1 h0
    have hsp : ouK y = ouK (y.take n) ++ ouK (y.drop n) := by
      refine bytes_ext ?_
      have := List.take_append_drop n y
      conv => lhs; rw [← this]
      simp only [ouK, strOf, ByteArray.data_append, List.map_append]
      simp
    rw [emp_app, hsp] at h3
    have := (avN_pos b m n ByteArray.empty).2 ⟨y.take n, by rw [List.length_take]; omega, fun j hj => h2 j (List.mem_of_mem_take hj), by rw [emp_app]; exact avoids_pre h3⟩
    omega
/-- Of one letter: a word of eighteen letters makes one of sixty-eight. -/
theorem one_letter {b : List ByteArray} (hb : banOk b = true) (h : 0 < avN b 1 18 ByteArray.empty) : 0 < avN b 1 68 ByteArray.empty := by
  obtain ⟨y, h1, h2, h3⟩ := (avN_pos b 1 18 _).1 h
  have hy : y = List.replicate 18 0 := by
    rw [List.eq_replicate_iff]
    exact ⟨h1, fun j hj => by have := h2 j hj; omega⟩
  subst hy
  refine (avN_pos b 1 68 _).2 ⟨List.replicate 68 0, by simp, fun j hj => by rw [List.eq_of_mem_replicate hj]; omega, ?_⟩
  rw [emp_app, avoidsB_iff] at h3 ⊢
  intro f hf hin
  refine h3 f hf ?_
  have hsz := (ban_len hb hf).2
  have hL : ∀ n, L (ouK (List.replicate n 0)) = List.replicate n (ltr 0) := fun n => by
    unfold ouK; rw [strOf_L, List.map_replicate]
  rw [hL] at hin ⊢
  have hall : L f = List.replicate f.size (ltr 0) := by
    rw [List.eq_replicate_iff, L_len]
    exact ⟨rfl, fun c hc => List.eq_of_mem_replicate (hin.subset hc)⟩
  rw [hall]
  refine ⟨[], List.replicate (18 - f.size) (ltr 0), ?_⟩
  rw [List.nil_append, List.replicate_append_replicate]
  congr 1; omega
/-- FirstAvoiding's word: the first in order. -/
theorem fst_least {b : List ByteArray} (hb : banOk b = true) (m : Nat) : ∀ (n : Nat) (o : ByteArray), avoidsB o b = true → 0 < cnt b m n (tl3 o) →
    ∃ y : List Nat, y.length = n ∧ (∀ j ∈ y, j < m) ∧ fstG b m n o = o ++ ouK y ∧ avoidsB (o ++ ouK y) b = true ∧ ∀ z : List Nat, z.length = n → (∀ j ∈ z, j < m) → avoidsB (o ++ ouK z) b = true → y = z ∨ y < z
  | 0, o, ho, _ => ⟨[], rfl, (fun j hj => by cases hj), by rw [fstG_zero, ouK_nil], by rw [ouK_nil]; exact ho, fun z hz _ _ => .inl (List.eq_nil_of_length_eq_zero hz).symm⟩
  | n + 1, o, ho, h => by
    obtain ⟨j0, hj0, hok0⟩ := okJ_ex hb ho h
    obtain ⟨j, hj, hok, hfirst⟩ := least_upto m ⟨j0, hj0, hok0⟩
    rw [fstG_step hj hok hfirst]
    have hok2 := hok
    unfold okJ at hok2
    rw [Bool.and_eq_true, decide_eq_true_eq] at hok2
    obtain ⟨y, h1, h2, h3, h4, h5⟩ := fst_least hb m n (o ++ strOf [ltr j]) hok2.1 hok2.2
    refine ⟨j :: y, by rw [List.length_cons, h1], fun i hi => ?_, by rw [h3, ouK_cons], by rw [ouK_cons]; exact h4, fun z hz1 hz2 hz3 => ?_⟩
    · rcases List.mem_cons.1 hi with rfl | hi
      · exact hj
      · exact h2 i hi
    · cases z with
      | nil => simp at hz1
      | cons i z =>
        rw [ouK_cons] at hz3
        have hi := hz2 i (by simp)
        have ha := avoids_pre hz3
        have hpos : 0 < cnt b m n (tl3 (o ++ strOf [ltr i])) := by
          rw [← cnt_av hb m n _ ha]
          exact (avN_pos b m n _).2 ⟨z, by simpa using hz1, fun t ht => hz2 t (List.mem_cons_of_mem _ ht), hz3⟩
        have hoki : okJ b m n o i = true := by unfold okJ; rw [ha, decide_eq_true hpos]; rfl
        rcases Nat.lt_trichotomy i j with h6 | h6 | h6
        · rw [hfirst i h6] at hoki; cases hoki
        · subst h6
          rcases h5 z (by simpa using hz1) (fun t ht => hz2 t (List.mem_cons_of_mem _ ht)) hz3 with h7 | h7
          · left; rw [h7]
          · right; exact List.cons_lt_cons_iff.2 (.inr ⟨rfl, h7⟩)
        · right; exact List.cons_lt_cons_iff.2 (.inl h6)
/-- The words that the law goes through. -/
theorem lay_dK : ∀ k n, 1 ≤ k → k ≤ 3 → n ≤ 4 → layK k n = (dK k n).map ouK := by
  intro k n h1 h3 h4
  have h : ∀ k, k < 4 → ∀ n, n < 5 → layK k n = (dK k n).map ouK := by decide +kernel
  exact h k (by omega) n (by omega)
section
open Go.RowKit

theorem lb_all {s f : ByteArray} (h : f ∈ lbL s) : f ∈ lays 4 ∧ lbP s f = true := by
  unfold lbL at h
  have h1 := List.mem_of_mem_take h
  rw [insL_mem] at h1
  unfold lbAll at h1
  exact List.mem_filter.1 h1
theorem laysA_size : ∀ n x, x ∈ lays n → x.size ≤ n
  | 0, x, h => by have := lay_size 0 x h; omega
  | n + 1, x, h => by
    rw [lays] at h
    rcases List.mem_append.1 h with h | h
    · have := laysA_size n x h; omega
    · have := lay_size _ x h; omega
theorem lb_mem {s f : ByteArray} (hs : isW (L s) = true) (h : f ∈ lbL s) : 1 ≤ f.size ∧ f.size ≤ 4 ∧ isW (L f) = true ∧ hasF s f = false ∧ hasF s (f.extract 1 f.size) = true ∧ hasF s (f.extract 0 (f.size - 1)) = true := by
  obtain ⟨h1, h2⟩ := lb_all h
  have h4 := laysA_size 4 f h1
  unfold lbP lbQ at h2
  simp only [Bool.and_eq_true, decide_eq_true_eq, Bool.not_eq_true'] at h2
  obtain ⟨⟨h5, ⟨⟨h6, h7⟩, h8⟩⟩, h9⟩ := h2
  refine ⟨by omega, h4, ?_, h6, h7, h8⟩
  unfold isW at hs ⊢
  simp only [Bool.and_eq_true, List.all_eq_true, decide_eq_true_eq] at hs ⊢
  refine ⟨fun c hc => ?_, by rw [L_len]; omega⟩
  unfold allIn at h9
  rw [List.all_eq_true] at h9
  have := h9 c hc
  rw [hasF_iff, strOf_L] at this
  exact hs.1 c (this.subset (by simp))
theorem lb_ss (s : ByteArray) : SS (lbL s) := (insL_ss _).sublist (List.take_sublist _ _)
theorem lb_len (s : ByteArray) : (lbL s).length ≤ 8 := by unfold lbL; rw [List.length_take]; omega
theorem lb_ok {s : ByteArray} (hs : isW (L s) = true) : banOk (lbL s) = true := by
  have hl := lb_len s
  unfold banOk
  rw [Bool.and_eq_true, List.all_eq_true, decide_eq_true_eq]
  refine ⟨fun f hf => ?_, hl⟩
  obtain ⟨h1, h2, h3, _⟩ := lb_mem hs hf
  unfold banW
  rw [h3, decide_eq_true ⟨h1, h2⟩]; rfl
theorem lb_avoids {s : ByteArray} (hs : isW (L s) = true) : avoidsB s (lbL s) = true := by
  rw [avoidsB_iff]
  intro f hf hin
  obtain ⟨_, _, _, h, _⟩ := lb_mem hs hf
  rw [(hasF_iff s f).2 hin] at h; cases h
/-- A factor of a word that is not all of it lies in one of its two longest parts. -/
theorem inf_part2 {f g : List UInt8} (h : g <:+: f) (hne : g ≠ f) : g <:+: f.drop 1 ∨ g <:+: f.take (f.length - 1) := by
  obtain ⟨a, b, e⟩ := h
  cases a with
  | nil =>
    right
    have hb : b ≠ [] := fun hb => hne (by rw [← e, hb]; simp)
    obtain ⟨b', z, rfl⟩ : ∃ a c, b = a ++ [c] := ⟨b.dropLast, b.getLast hb, (List.dropLast_concat_getLast hb).symm⟩
    refine ⟨[], b', ?_⟩
    rw [← e]
    simp only [List.nil_append, List.length_append, List.length_cons, List.length_nil]
    rw [← List.append_assoc, show g.length + (b'.length + (0 + 1)) - 1 = (g ++ b').length by rw [List.length_append]; omega, List.take_left]
  | cons c a =>
    left
    exact ⟨a, b, by rw [← e]; rfl⟩
theorem lb_reduced {s : ByteArray} (hs : isW (L s) = true) : rbL (lbL s) = lbL s := by
  refine ss_uniq (insL_ss _) (lb_ss s) fun f => ?_
  show f ∈ rbL (lbL s) ↔ _
  rw [rb_mem]
  refine ⟨fun h => h.1, fun h => ⟨h, ?_⟩⟩
  unfold rbK
  rw [List.all_eq_true]
  intro g hg
  unfold rbP
  by_cases e : g = f
  · rw [decide_eq_true e]; rfl
  · rw [decide_eq_false e, Bool.false_or, Bool.not_eq_true']
    cases hh : hasF f g with
    | false => rfl
    | true =>
      exfalso
      rw [hasF_iff] at hh
      obtain ⟨_, _, _, h4, _⟩ := lb_mem hs hg
      obtain ⟨_, _, _, _, h5, h6⟩ := lb_mem hs h
      have h7 : hasF s g = true := by
        rw [hasF_iff]
        rw [hasF_iff, L_extract, List.take_of_length_le (by rw [L_len]; exact Nat.le_refl _)] at h5
        rw [hasF_iff, L_extract, List.drop_zero] at h6
        rcases inf_part2 hh (fun e2 => e (bytes_ext e2)) with h8 | h8
        · exact h8.trans h5
        · rw [L_len] at h8; exact h8.trans h6
      rw [h7] at h4; cases h4
/-- What the law's loop keeps: the first of the words so far. -/
def Fst1 (A : List ByteArray) (first : ByteArray) : Prop := A = [] ∧ first = ⟨#[]⟩ ∨ first ∈ A ∧ ∀ x ∈ A, ¬ L x < L first
theorem Fst1.one {x : ByteArray} : Fst1 [x] x := .inr ⟨by simp, fun y hy => by rw [List.mem_singleton] at hy; subst hy; exact List.lt_irrefl _⟩
theorem Fst1.take {A : List ByteArray} {first x : ByteArray} (h : Fst1 A first) (h0 : A ≠ []) (hlt : L x < L first) : Fst1 (A ++ [x]) x := by
  rcases h with ⟨h1, _⟩ | ⟨_, h2⟩
  · exact absurd h1 h0
  · refine .inr ⟨by simp, fun y hy => ?_⟩
    rcases List.mem_append.1 hy with hy | hy
    · exact fun h3 => h2 y hy (List.lt_trans h3 hlt)
    · rw [List.mem_singleton] at hy; subst hy; exact List.lt_irrefl _
theorem Fst1.stay {A : List ByteArray} {first x : ByteArray} (h : Fst1 A first) (h0 : A ≠ []) (hlt : ¬ L x < L first) : Fst1 (A ++ [x]) first := by
  rcases h with ⟨h1, _⟩ | ⟨h1, h2⟩
  · exact absurd h1 h0
  · refine .inr ⟨List.mem_append_left _ h1, fun y hy => ?_⟩
    rcases List.mem_append.1 hy with hy | hy
    · exact h2 y hy
    · rw [List.mem_singleton] at hy; subst hy; exact hlt
end
end Go.Proofs.YtaihigaafjmpiaaDoor
