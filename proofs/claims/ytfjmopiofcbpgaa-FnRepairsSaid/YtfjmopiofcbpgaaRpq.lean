/- Repairs, plain: what the law FnRepairs asks of the functions. No program; the pairs are in order, each once. -/
import Derived.Test.YtfjmopiofcbpgaaRpn
import Derived.Test.YtfjmopiofcbpgaaNear
import Derived.Test.YtfjmopiofcbpgaaLwk
import Derived.Test.YtfjmopiofcbpgaaOrd
namespace Go.Proofs.Ytfjmopiofcbpgaa
open Go.RowKit
set_option linter.unusedVariables false

theorem rq_ok {ss : List ByteArray} (hp : pairsOk ss = true) {w : ByteArray} (hw : isW (L w) = true) (hl : w.size ≤ 40) : repOk w ss = true := by unfold repOk; rw [hw, hp, decide_eq_true hl]; rfl
/-- A word with no changes is the word. -/
theorem rq_same {w : ByteArray} (hw : isW (L w) = true) (hl : w.size ≤ 40) {y : List Nat} (hd : dg y) (hy : y.length = w.size) (h0 : dfL (L w) y = 0) : y = dgt w := by
  have h1 := df_words hw (out_isW hd (by omega)) (by rw [out_size, hy])
  rw [dgt_out hd, h0] at h1
  have h2 : (L (outS y)).length = (L w).length := by rw [L_len, L_len, out_size, hy]
  have h3 : mism (L (outS y)) (L w) = 0 := by omega
  have h4 : ∀ {l m : List UInt8}, l.length = m.length → mism l m = 0 → l = m := by
    intro l
    induction l with
    | nil => intro m h _; exact (List.eq_nil_of_length_eq_zero h.symm).symm
    | cons a l ih =>
      intro m h h5
      cases m with
      | nil => simp at h
      | cons b m =>
        rw [mism] at h5
        by_cases e : a = b
        · subst e; rw [if_pos rfl] at h5; rw [ih (by simpa using h) (by omega)]
        · rw [if_neg e] at h5; omega
  have h5 : outS y = w := bytes_ext (h4 h2 h3)
  rw [← h5, dgt_out hd]
theorem rq_self {w : ByteArray} (hw : isW (L w) = true) : dfL (L w) (dgt w) = 0 := by
  rw [df_words hw hw rfl]
  have : ∀ l : List UInt8, mism l l = 0 := fun l => by
    induction l with
    | nil => rfl
    | cons a l ih => rw [mism, if_pos rfl, ih]
  rw [this]; rfl
/-- Where there are allowed words of this length. -/
theorem rq_yes {ss : List ByteArray} (hp : pairsOk ss = true) {w : ByteArray} (hw : isW (L w) = true) (hl : w.size ≤ 40) (h : tot false ss (L w) < 1000) :
    fewOf w ss = tot false ss (L w) ∧ 0 ≤ fewOf w ss ∧ fewOf w ss ≤ w.size ∧ repairB w ss = true ∧ allowB (repairS w ss) ss = true ∧ isW (L (repairS w ss)) = true ∧ (repairS w ss).size = w.size ∧ (mism (L (repairS w ss)) (L w) : Int) = fewOf w ss ∧
      ∀ x : ByteArray, isW (L x) = true → x.size = w.size → allowB x ss = true → fewOf w ss ≤ mism (L x) (L w) ∧ ((mism (L x) (L w) : Int) ≤ fewOf w ss → ¬ L x < L (repairS w ss)) := by
  have hk := rq_ok hp hw hl
  obtain ⟨q1, q2, q3, q4, q5⟩ := rep_best ss (L w) h
  rw [L_len] at q1 q5
  have e1 : fewOf w ss = tot false ss (L w) := by rw [fewOf, if_pos hk, totN, if_pos h]
  have e2 : repairS w ss = outS (repL false ss (L w)) := by rw [repairS, if_pos hk]; rfl
  have hb := dfL_bd (L w) (repL false ss (L w))
  rw [q4, L_len] at hb
  have hrw := out_isW q2 (by omega)
  have hdm := df_words hw hrw (by rw [out_size, q1])
  rw [dgt_out q2, q4] at hdm
  refine ⟨e1, by omega, by omega, ?_, ?_, by rw [e2]; exact hrw, by rw [e2, out_size, q1], by rw [e2, e1, hdm], fun x hx1 hx2 hx3 => ?_⟩
  · unfold repairB
    rw [hk, totN, if_pos h, decide_eq_true hb.1]; rfl
  · rw [e2, allow_out hp q2 (by omega)]; exact q3
  · have hxd := dgt_dg hx1
    rw [allow_dgt hp hx1 (by omega)] at hx3
    obtain ⟨g1, g2⟩ := q5 (dgt x) (by rw [dgt_len, hx2]) hxd hx3
    rw [df_words hw hx1 hx2.symm] at g1 g2
    rw [e1]
    refine ⟨g1, fun hle hlt => ?_⟩
    rcases g2 hle with e | e
    · rw [e2, e, out_dgt hx1] at hlt
      exact List.lt_irrefl _ hlt
    · have := out_lt q2 hxd e
      rw [← L_out, ← L_out, ← e2, out_dgt hx1] at this
      exact List.lt_asymm this hlt
/-- Where there are none. -/
theorem rq_no {ss : List ByteArray} (hp : pairsOk ss = true) {w : ByteArray} (hw : isW (L w) = true) (hl : w.size ≤ 40) (h : ¬ tot false ss (L w) < 1000) : fewOf w ss = -1 ∧ repairB w ss = false ∧ repairS w ss = ⟨#[]⟩ ∧ ∀ x : ByteArray, isW (L x) = true → x.size = w.size → allowB x ss = false := by
  have hk := rq_ok hp hw hl
  have e1 : totN false ss (L w) = -1 := by rw [totN, if_neg h]
  refine ⟨by rw [fewOf, if_pos hk, e1], ?_, ?_, fun x hx1 hx2 => ?_⟩
  · unfold repairB; rw [e1, decide_eq_false (by omega)]; simp
  · rw [repairS, if_pos hk]; exact rep_none (by rw [e1]; omega)
  · rw [allow_dgt hp hx1 (by omega)]
    exact rep_noway ss (L w) (by rw [L_len]; omega) h (dgt x) (by rw [dgt_len, L_len, hx2]) (dgt_dg hx1)
theorem rq_allow {ss : List ByteArray} (hp : pairsOk ss = true) {w : ByteArray} (hw : isW (L w) = true) (hl : w.size ≤ 40) : allowB w ss = decide (fewOf w ss = 0) := by
  by_cases h : tot false ss (L w) < 1000
  · obtain ⟨e1, e2, _, _, e5, _, e6, e7, e8⟩ := rq_yes hp hw hl h
    rw [Bool.eq_iff_iff, decide_eq_true_eq]
    constructor
    · intro ha
      have := (e8 w hw rfl ha).1
      have h0 := rq_self hw
      rw [df_words hw hw rfl] at h0
      omega
    · intro h0
      have hr : repairS w ss = w := by
        obtain ⟨q1, q2, q3, q4, _⟩ := rep_best ss (L w) h
        rw [L_len] at q1
        have := rq_same hw hl q2 q1 (by rw [q4, ← e1, h0])
        rw [repairS, if_pos (rq_ok hp hw hl)]
        show outS (repL false ss (L w)) = w
        rw [this, out_dgt hw]
      rw [hr] at e5; exact e5
  · obtain ⟨e1, _, _, e4⟩ := rq_no hp hw hl h
    rw [e4 w hw rfl, e1]; rfl
theorem rq_fault {ss : List ByteArray} (hp : pairsOk ss = true) {w : ByteArray} (hw : isW (L w) = true) (hl : w.size ≤ 40) : decide (faultOf w ss = -1) = decide (fewOf w ss = 0) := by
  rw [← rq_allow hp hw hl, allow_dgt hp hw hl, Bool.eq_iff_iff, decide_eq_true_eq]
  exact fault_dgt hp hw hl
theorem rq_count {ss : List ByteArray} (hp : pairsOk ss = true) {w : ByteArray} (hw : isW (L w) = true) (hl : w.size ≤ 40) (h20 : w.size ≤ 20) : repairB w ss = decide (0 < ctV w.size ss) := by
  have e : ctV (w.size : Int) ss = (cntD ss w.size : Int) := by
    rw [ctV, if_pos ⟨⟨by omega, by omega⟩, hp⟩, Int.toNat_natCast, ctAll_D hp _ h20]
  have hc := cntD_pos ss w.size
  rw [e]
  by_cases h : tot false ss (L w) < 1000
  · obtain ⟨_, _, _, e4, e5, e6, e7, _⟩ := rq_yes hp hw hl h
    rw [e4]
    refine (decide_eq_true ?_).symm
    rw [allow_dgt hp e6 (by omega)] at e5
    have := hc.2 ⟨dgt (repairS w ss), by rw [dgt_len, e7], dgt_dg e6, e5⟩
    omega
  · obtain ⟨_, e2, _, e4⟩ := rq_no hp hw hl h
    rw [e2]
    refine (decide_eq_false ?_).symm
    intro h0
    obtain ⟨y, h1, h2, h3⟩ := hc.1 (by omega)
    have := e4 (outS y) (out_isW h2 (by omega)) (by rw [out_size, h1])
    rw [allow_out hp h2 (by omega), h3] at this
    cases this
/-- What the law's loop keeps: the fewest changes and the first word that has them, among the words so far. -/
def BS (p : ByteArray) (A : List ByteArray) (few : Int) (first : ByteArray) : Prop :=
  A = [] ∧ few = -1 ∧ first = ⟨#[]⟩ ∨ 0 ≤ few ∧ first ∈ A ∧ few = (mism (L first) (L p) : Nat) ∧ ∀ x ∈ A, few < (mism (L x) (L p) : Nat) ∨ few = (mism (L x) (L p) : Nat) ∧ ¬ L x < L first
theorem BS.take {p : ByteArray} {A : List ByteArray} {few : Int} {first x : ByteArray} (h : BS p A few first) (hc : few < 0 ∨ ((mism (L x) (L p) : Nat) : Int) < few ∨ ((mism (L x) (L p) : Nat) : Int) = few ∧ L x < L first) : BS p (A ++ [x]) (mism (L x) (L p) : Nat) x := by
  refine .inr ⟨by omega, by simp, rfl, fun y hy => ?_⟩
  rcases List.mem_append.1 hy with hy | hy
  · rcases h with ⟨h1, _, _⟩ | ⟨h0, h1, h2, h3⟩
    · rw [h1] at hy; cases hy
    · rcases h3 y hy with h4 | ⟨h4, h5⟩
      · left; omega
      · rcases hc with hc | hc | ⟨hc, hc2⟩
        · omega
        · left; omega
        · right; exact ⟨by omega, fun h6 => h5 (List.lt_trans h6 hc2)⟩
  · rw [List.mem_singleton] at hy; subst hy
    exact .inr ⟨rfl, List.lt_irrefl _⟩
theorem BS.stay {p : ByteArray} {A : List ByteArray} {few : Int} {first x : ByteArray} (h : BS p A few first) (h0 : ¬ few < 0) (h1 : ¬ ((mism (L x) (L p) : Nat) : Int) < few) (h2 : ¬ (((mism (L x) (L p) : Nat) : Int) = few ∧ L x < L first)) : BS p (A ++ [x]) few first := by
  rcases h with ⟨_, g2, _⟩ | ⟨g0, g1, g2, g3⟩
  · omega
  · refine .inr ⟨g0, List.mem_append_left _ g1, g2, fun y hy => ?_⟩
    rcases List.mem_append.1 hy with hy | hy
    · exact g3 y hy
    · rw [List.mem_singleton] at hy; subst hy
      by_cases e : few = (mism (L y) (L p) : Nat)
      · exact .inr ⟨e, fun h => h2 ⟨e.symm, h⟩⟩
      · left; omega
/-- The words that the law's loop takes. -/
def okW (ss : List ByteArray) (k : Nat) (x : ByteArray) : Bool := decide (x.size = k) && allowB x ss
theorem bs_fin {ss : List ByteArray} (hp : pairsOk ss = true) {p : ByteArray} (hw : isW (L p) = true) (hl : p.size ≤ 3) {few : Int} {first : ByteArray} (h : BS p ((laysK 4 p.size).filter (okW ss p.size)) few first) :
    few = fewOf p ss ∧ first = repairS p ss ∧ (((laysK 4 p.size).filter (okW ss p.size)).length : Int) = ctV p.size ss := by
  have hmem : ∀ x, x ∈ (laysK 4 p.size).filter (okW ss p.size) ↔ isW (L x) = true ∧ x.size = p.size ∧ allowB x ss = true := fun x => by
    rw [List.mem_filter]
    unfold okW
    rw [Bool.and_eq_true, decide_eq_true_eq]
    constructor
    · rintro ⟨_, h2, h3⟩
      refine ⟨?_, h2, h3⟩
      unfold allowB repOk at h3
      simp only [Bool.and_eq_true] at h3
      exact h3.1.1.1
    · rintro ⟨h1, h2, h3⟩
      refine ⟨?_, h2, h3⟩
      have h4 : x ∈ layK 4 p.size := (layK_mem 4 (by decide) p.size x).2 ⟨h2, fun d hd => by have := isW_all h1 d hd; omega⟩
      rw [← laysK_filter 4 p.size p.size (Nat.le_refl _), List.mem_filter] at h4
      exact h4.1
  have hcount : (((laysK 4 p.size).filter (okW ss p.size)).length : Int) = ctV p.size ss := by
    have e : ctV (p.size : Int) ss = (cntD ss p.size : Int) := by
      rw [ctV, if_pos ⟨⟨by omega, by omega⟩, hp⟩, Int.toNat_natCast, ctAll_D hp _ (by omega)]
    rw [e, ← cntD_cnt]
    have h1 : (laysK 4 p.size).filter (okW ss p.size) = (layK 4 p.size).filter (fun x => allowB x ss) := by
      rw [← laysK_filter 4 p.size p.size (Nat.le_refl _), List.filter_filter]
      refine List.filter_congr fun x _ => ?_
      unfold okW; rw [Bool.and_comm]
    have h2 : ∀ n, n ≤ 3 → layK 4 n = (digs n).map outS := fun n hn => by
      match n, hn with
      | 0, _ => decide +kernel
      | 1, _ => decide +kernel
      | 2, _ => decide +kernel
      | 3, _ => decide +kernel
    rw [h1, h2 p.size hl, List.filter_map, List.length_map]
    congr 2
    refine List.filter_congr fun y hy => ?_
    obtain ⟨g1, g2⟩ := (digs_mem _ _).1 hy
    exact allow_out hp g2 (by omega)
  refine ⟨?_, ?_, hcount⟩
  all_goals
    by_cases ht : tot false ss (L p) < 1000
    · obtain ⟨e1, e2, _, _, e5, e6, e7, e8, e9⟩ := rq_yes hp hw (by omega) ht
      have hr := (hmem (repairS p ss)).2 ⟨e6, e7, e5⟩
      rcases h with ⟨h1, _⟩ | ⟨h0, h1, h2, h3⟩
      · rw [h1] at hr; cases hr
      · obtain ⟨f1, f2, f3⟩ := (hmem first).1 h1
        obtain ⟨g1, g2⟩ := e9 first f1 f2 f3
        have hrr := h3 _ hr
        have heq : few = fewOf p ss := by
          rcases hrr with h4 | ⟨h4, _⟩ <;> omega
        first
          | exact heq
          | (refine bytes_ext (show L first = L (repairS p ss) from ?_)
             have n1 := g2 (by omega)
             have n2 : ¬ L (repairS p ss) < L first := by
               rcases hrr with h4 | ⟨_, h4⟩
               · omega
               · exact h4
             exact List.le_antisymm (List.not_lt.1 n2) (List.not_lt.1 n1))
    · obtain ⟨e1, _, e3, e4⟩ := rq_no hp hw (by omega) ht
      rcases h with ⟨_, h1, h2⟩ | ⟨_, h1, _⟩
      · first
          | (rw [h1, e1])
          | (rw [h2, e3])
      · obtain ⟨f1, f2, f3⟩ := (hmem first).1 h1
        rw [e4 first f1 f2] at f3; cases f3
/-- LongestAllowed. -/
theorem lg_ok {ss : List ByteArray} (hp : pairsOk ss = true) : (lgV ss = 40 ∧ 0 < ctV 20 ss) ∨ (1 ≤ lgV ss ∧ lgV ss ≤ 4 ∧ ctV (lgV ss) ss ≠ 0 ∧ ctV (lgV ss + 1) ss = 0) := by
  have hv : ∀ n : Nat, n ≤ 20 → ctV (n : Int) ss = (cntD ss n : Int) := fun n hn => by
    rw [ctV, if_pos ⟨⟨by omega, by omega⟩, hp⟩, Int.toNat_natCast, ctAll_D hp _ hn]
  have ha : ∀ n : Nat, n ≤ 20 → ctAll ss n = (cntD ss n : Int) := fun n hn => ctAll_D hp n hn
  have h1 : cntD ss 1 = 4 := rfl
  have v1 := hv 1 (by omega); have v2 := hv 2 (by omega); have v3 := hv 3 (by omega); have v4 := hv 4 (by omega); have v5 := hv 5 (by omega); have v20 := hv 20 (by omega)
  rw [lgV, if_pos hp, lgGo, ha 2 (by omega)]
  by_cases e2 : (cntD ss 2 : Int) = 0
  · right; rw [if_pos e2]
    show 1 ≤ (((2 : Nat) : Int) - 1) ∧ _
    exact ⟨by decide, by decide, by rw [show (((2 : Nat) : Int) - 1) = ((1 : Nat) : Int) from rfl, v1, h1]; decide, by rw [show (((2 : Nat) : Int) - 1 + 1) = ((2 : Nat) : Int) from rfl, v2]; exact e2⟩
  rw [if_neg e2, lgGo, ha 3 (by omega)]
  by_cases e3 : (cntD ss 3 : Int) = 0
  · right; rw [if_pos e3]
    exact ⟨by decide, by decide, by rw [show (((2 + 1 : Nat) : Int) - 1) = ((2 : Nat) : Int) from rfl, v2]; exact e2, by rw [show (((2 + 1 : Nat) : Int) - 1 + 1) = ((3 : Nat) : Int) from rfl, v3]; exact e3⟩
  rw [if_neg e3, lgGo, ha 4 (by omega)]
  by_cases e4 : (cntD ss 4 : Int) = 0
  · right; rw [if_pos e4]
    exact ⟨by decide, by decide, by rw [show (((2 + 1 + 1 : Nat) : Int) - 1) = ((3 : Nat) : Int) from rfl, v3]; exact e3, by rw [show (((2 + 1 + 1 : Nat) : Int) - 1 + 1) = ((4 : Nat) : Int) from rfl, v4]; exact e4⟩
  rw [if_neg e4, lgGo, ha 5 (by omega)]
  by_cases e5 : (cntD ss 5 : Int) = 0
  · right; rw [if_pos e5]
    exact ⟨by decide, by decide, by rw [show (((2 + 1 + 1 + 1 : Nat) : Int) - 1) = ((4 : Nat) : Int) from rfl, v4]; exact e4, by rw [show (((2 + 1 + 1 + 1 : Nat) : Int) - 1 + 1) = ((5 : Nat) : Int) from rfl, v5]; exact e5⟩
  rw [if_neg e5, lgGo]
  left
  refine ⟨rfl, ?_⟩
  rw [show ctV 20 ss = ctV ((20 : Nat) : Int) ss from rfl, v20]
  obtain ⟨y, g1, g2, g3⟩ := (cntD_pos ss 5).1 (by omega)
  have := (cntD_pos ss 20).2 (long_alw g1 g2 g3 20)
  omega
end Go.Proofs.Ytfjmopiofcbpgaa
