/- Words that avoid a ban, plain: what the law FnAvoiding asks of the counts and of the first word. No condition but the bounds. -/
import Derived.Test.YtaihigaafjmpiaaDoorAvr
import Derived.Test.YtaihigaafjmpiaaDoorFav
import Derived.Test.YtaihigaafjmpiaaDoorTurn
namespace Go.Proofs.YtaihigaafjmpiaaDoor
open Go.RowKit
set_option linter.unusedVariables false

/-- The words that the law's loop takes. -/
def okV (b : List ByteArray) (n : Nat) (y : ByteArray) : Bool := decide (y.size = n) && avoV y b
theorem ltr_nat {j : Nat} (h : j < 4) : (ltr j).toNat = 97 + j := by unfold ltr; rw [UInt8.toNat_ofNat']; omega
theorem ouK_size (y : List Nat) : (ouK y).size = y.length := by unfold ouK; rw [strOf_size, List.length_map]
theorem ouK_isW {y : List Nat} (h : ∀ j ∈ y, j < 4) (hl : y.length ≤ 400) : isW (L (ouK y)) = true := by
  unfold ouK
  rw [strOf_L]
  unfold isW
  rw [Bool.and_eq_true, List.all_eq_true, decide_eq_true_eq, List.length_map]
  refine ⟨fun c hc => ?_, hl⟩
  obtain ⟨j, hj, rfl⟩ := List.mem_map.1 hc
  have := ltr_nat (h j hj)
  have := h j hj
  unfold okc
  exact decide_eq_true (by omega)
theorem okV_filter {b : List ByteArray} (hb : banOk b = true) {k n : Nat} (h1 : 1 ≤ k) (h3 : k ≤ 3) (h4 : n ≤ 4) : (laysK k n).filter (okV b n) = ((dK k n).filter fun y => avoidsB (ByteArray.empty ++ ouK y) b).map ouK := by
  have e1 : (laysK k n).filter (okV b n) = (layK k n).filter (fun y => avoV y b) := by
    rw [← laysK_filter k n n (Nat.le_refl _), List.filter_filter]
    refine List.filter_congr fun y _ => ?_
    unfold okV; rw [Bool.and_comm]
  rw [e1, lay_dK k n h1 h3 h4, List.filter_map]
  congr 1
  refine List.filter_congr fun y hy => ?_
  obtain ⟨g1, g2⟩ := (dK_mem k n y).1 hy
  simp only [Function.comp]
  rw [emp_app]
  unfold avoV
  rw [ouK_isW (fun j hj => by have := g2 j hj; omega) (by omega), hb]; rfl
theorem av_count {b : List ByteArray} (hb : banOk b = true) {k n : Nat} (h1 : 1 ≤ k) (h3 : k ≤ 3) (h4 : n ≤ 4) : ((laysK k n).filter (okV b n)).length = cnt b k n ByteArray.empty := by
  rw [okV_filter hb h1 h3 h4, List.length_map, cnt_words hb]; rfl
theorem ouK_lt : ∀ {x y : List Nat}, (∀ j ∈ x, j < 4) → (∀ j ∈ y, j < 4) → x < y → x.map ltr < y.map ltr
  | _, [], _, _, h => absurd h (List.not_lt_nil _)
  | [], k :: y, _, _, _ => List.nil_lt_cons _ _
  | i :: x, k :: y, hx, hy, h => by
    have hi := hx i (by simp)
    have hk := hy k (by simp)
    rw [List.map_cons, List.map_cons]
    rcases List.cons_lt_cons_iff.1 h with h3 | ⟨h4, h3⟩
    · refine List.cons_lt_cons_iff.2 (.inl ?_)
      rw [UInt8.lt_iff_toNat_lt, ltr_nat hi, ltr_nat hk]; omega
    · exact List.cons_lt_cons_iff.2 (.inr ⟨by rw [h4], ouK_lt (fun j hj => hx j (List.mem_cons_of_mem _ hj)) (fun j hj => hy j (List.mem_cons_of_mem _ hj)) h3⟩)
theorem caV_is {b : List ByteArray} (hb : banOk b = true) {k n : Nat} (h1 : 1 ≤ k) (h4 : k ≤ 4) (h18 : n ≤ 18) : caV (k : Int) (n : Int) b = (cnt b k n ByteArray.empty : Int) := by
  rw [caV_yes (by unfold caOk; rw [hb, decide_eq_true (show (1 : Int) ≤ (k : Int) ∧ (k : Int) ≤ 4 by omega), decide_eq_true (show (0 : Int) ≤ (n : Int) ∧ (n : Int) ≤ 18 by omega)]; rfl)]
  simp
theorem av_first {b : List ByteArray} (hb : banOk b = true) {k n : Nat} (h1 : 1 ≤ k) (h3 : k ≤ 3) (h4 : n ≤ 4) {first : ByteArray} (h : Fst1 ((laysK k n).filter (okV b n)) first) : faV (k : Int) (n : Int) b = first ∧ faOk (k : Int) (n : Int) b = decide (0 < ((laysK k n).filter (okV b n)).length) := by
  have hc := av_count hb h1 h3 h4
  have hv := caV_is hb h1 (by omega) (show n ≤ 18 by omega)
  have hok : faOk (k : Int) (n : Int) b = decide (0 < ((laysK k n).filter (okV b n)).length) := by
    unfold faOk; rw [hv, hc, decide_eq_decide]; omega
  refine ⟨?_, hok⟩
  rw [okV_filter hb h1 h3 h4] at h hok hc
  rcases h with ⟨h5, h6⟩ | ⟨h5, h6⟩
  · rw [h5] at hok
    rw [faV, hok, h6]; rfl
  · have hlen : 0 < cnt b k n (tl3 ByteArray.empty) := by
      rw [tl3_nil, ← hc]; exact List.length_pos_of_mem h5
    rw [faV, hok, decide_eq_true (List.length_pos_of_mem h5), if_pos rfl, Int.toNat_natCast, Int.toNat_natCast]
    obtain ⟨y, g1, g2, g3, g4, g5⟩ := fst_least hb k n ByteArray.empty (avoids_nil hb) hlen
    rw [g3, emp_app]
    obtain ⟨z, hz, hzf⟩ := List.mem_map.1 h5
    obtain ⟨hz1, hz2⟩ := List.mem_filter.1 hz
    obtain ⟨hz3, hz4⟩ := (dK_mem k n z).1 hz1
    rcases g5 z hz3 hz4 hz2 with e | e
    · rw [e, hzf]
    · exfalso
      refine h6 (ouK y) (List.mem_map.2 ⟨y, List.mem_filter.2 ⟨(dK_mem k n y).2 ⟨g1, g2⟩, g4⟩, rfl⟩) ?_
      rw [← hzf]
      unfold ouK
      rw [strOf_L, strOf_L]
      exact ouK_lt (fun j hj => by have := g2 j hj; omega) (fun j hj => by have := hz4 j hj; omega) e
theorem trn_L (f : ByteArray) : L (trn f) = (L f).reverse := by rw [trn, strOf_L, rv]
theorem turn_ok {b : List ByteArray} (hb : banOk b = true) : banOk (b.map trn) = true := by
  unfold banOk at hb ⊢
  simp only [Bool.and_eq_true, List.all_eq_true, decide_eq_true_eq, List.length_map] at hb ⊢
  refine ⟨fun f hf => ?_, hb.2⟩
  obtain ⟨g, hg, rfl⟩ := List.mem_map.1 hf
  have h1 := hb.1 g hg
  unfold banW isW at h1 ⊢
  rw [trn_L, List.all_reverse, List.length_reverse]
  have : (trn g).size = g.size := by rw [← L_len, trn_L, List.length_reverse, L_len]
  rw [this]; exact h1
theorem ca_reduced {b : List ByteArray} (hb : banOk b = true) {k n : Nat} (h1 : 1 ≤ k) (h4 : k ≤ 4) (h18 : n ≤ 18) : caV (k : Int) (n : Int) (rbL b) = caV (k : Int) (n : Int) b := by
  rw [caV_is hb h1 h4 h18, caV_is (rb_ok hb) h1 h4 h18, cnt_words hb, cnt_words (rb_ok hb), avN_congr (avoids_rb b)]
theorem ca_turned {b : List ByteArray} (hb : banOk b = true) {k n : Nat} (h1 : 1 ≤ k) (h4 : k ≤ 4) (h18 : n ≤ 18) : caV (k : Int) (n : Int) (b.map trn) = caV (k : Int) (n : Int) b := by
  rw [caV_is hb h1 h4 h18, caV_is (turn_ok hb) h1 h4 h18, cnt_words hb, cnt_words (turn_ok hb), avN_turn trn_L]
theorem un_turned {b : List ByteArray} (hb : banOk b = true) {k : Nat} (h1 : 1 ≤ k) (h4 : k ≤ 4) : unV k (b.map trn) = unV k b := by
  rw [un_iff hb h1 h4, un_iff (turn_ok hb) h1 h4, avN_turn trn_L]
/-- Unavoidable bans and the count at eighteen. -/
theorem un_count {b : List ByteArray} (hb : banOk b = true) {k : Nat} (h1 : 1 ≤ k) (h4 : k ≤ 4) : (caV (k : Int) 18 b = 0 → unV k b = true) ∧ (k = 1 → unV k b = true → ¬ 0 < caV (k : Int) 18 b) := by
  have hv := caV_is hb h1 h4 (Nat.le_refl 18)
  rw [show ((18 : Nat) : Int) = 18 from rfl, cnt_words hb] at hv
  rw [hv, un_iff hb h1 h4]
  refine ⟨fun h => decide_eq_true (avN_zero (n := 18) (by omega) (by omega)), fun hk hu h => ?_⟩
  subst hk
  have := one_letter hb (by omega)
  have := of_decide_eq_true hu
  omega
end Go.Proofs.YtaihigaafjmpiaaDoor
