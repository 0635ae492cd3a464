/- Repairs, plain: the gaps of the law FnRepairs and how they are filled; one byte stored in a row of bytes. No condition. -/
import Derived.Test.YtfjmopiofcbpgaaRpq
import Derived.Test.YtfjmopiofcbpgaaBrw
namespace Go.Proofs.Ytfjmopiofcbpgaa
open Go.RowKit
set_option linter.unusedVariables false

/-- Every second letter below place i a gap. -/
def gp (l : List UInt8) (i : Nat) : List UInt8 := l.mapIdx fun t b => if t % 2 = 0 ∧ t < i then 63 else b
theorem gp_len (l : List UInt8) (i : Nat) : (gp l i).length = l.length := by simp [gp]
theorem gp_at (l : List UInt8) (i t : Nat) : (gp l i)[t]? = l[t]?.map fun b => if t % 2 = 0 ∧ t < i then 63 else b := by simp [gp]
theorem gp_zero (l : List UInt8) : gp l 0 = l := by
  refine List.ext_getElem? fun t => ?_
  rw [gp_at]
  cases l[t]? <;> simp
theorem gp_set (l : List UInt8) (i : Nat) (h2 : i % 2 = 0) (h : i < l.length) : (gp l i).set i 63 = gp l (i + 2) := by
  refine List.ext_getElem? fun t => ?_
  rw [List.getElem?_set, gp_at, gp_at, gp_len]
  by_cases e : i = t
  · subst e
    rw [if_pos rfl, if_pos h, List.getElem?_eq_getElem h]
    simp only [Option.map_some]
    rw [if_pos ⟨h2, by omega⟩]
  · rw [if_neg e]
    cases l[t]? with
    | none => rfl
    | some b =>
      simp only [Option.map_some]
      by_cases h3 : t % 2 = 0 ∧ t < i
      · rw [if_pos h3, if_pos ⟨h3.1, by omega⟩]
      · rw [if_neg h3, if_neg (fun h4 => h3 ⟨h4.1, by omega⟩)]
theorem gp_end (l : List UInt8) (i : Nat) (h : l.length ≤ i) (t : Nat) (b : UInt8) (hb : (gp l i)[t]? = some b) : t % 2 = 0 ∧ b = 63 ∨ t % 2 = 1 ∧ l[t]? = some b := by
  rw [gp_at] at hb
  cases hl : l[t]? with
  | none => rw [hl] at hb; cases hb
  | some c =>
    rw [hl] at hb
    have hlt := (List.getElem?_eq_some_iff.1 hl).1
    simp only [Option.map_some, Option.some.injEq] at hb
    by_cases h2 : t % 2 = 0
    · rw [if_pos ⟨h2, by omega⟩] at hb
      exact .inl ⟨h2, hb.symm⟩
    · rw [if_neg (fun h3 => h2 h3.1)] at hb
      exact .inr ⟨by omega, by rw [hb]⟩
section
variable {w : World} {B g c : Nat} {E : TypeId} {l : List UInt8}
theorem BR.set (h : BR w B E g c l) {i : Nat} (hi : i < l.length) (b : UInt8) : BR (w.setCell ⟨g, i, none⟩ (.int .u8 (b.toNat : Int))) B E g c (l.set i b) := by
  obtain ⟨h1, h2, h3, cur, fr, hg, hs, ht, hf⟩ := h
  refine ⟨h1, by rw [List.length_set]; exact h2, h3, cur.setIfInBounds i (.int .u8 (b.toNat : Int)), fr, ?_, by simpa using hs, ?_, hf⟩
  · rw [setCell_eq_setRow w g i cur E fr _ hg]
    exact setRow_heap w g cur _ E fr hg
  · rw [List.length_set, Array.toList_setIfInBounds, List.take_set, ht, byV, byV, List.map_set]
theorem BR.free (h : BR w B E g c l) {i : Nat} (hi : i < l.length) : w.frozen? ⟨g, i, none⟩ = false := by
  obtain ⟨h1, h2, h3, cur, fr, hg, hs, ht, hf⟩ := h
  have := hf i (by omega)
  simp [World.frozen?, hg]
  omega
end
/-- The filled word. -/
theorem fill_ok {ss : List ByteArray} (hp : pairsOk ss = true) {w : ByteArray} (hw : isW (L w) = true) (hl : w.size ≤ 40) {g : ByteArray} (i : Nat) (hi : w.size ≤ i) (hg : L g = gp (L w) i) :
    (allowB w ss = true → fillB g ss = true ∧ ¬ L w < L (fillS g ss)) ∧ (fillB g ss = true → (fillS g ss).size = w.size ∧ isW (L (fillS g ss)) = true ∧ allowB (fillS g ss) ss = true ∧ ∀ t, t % 2 = 1 → (L (fillS g ss))[t]? = (L w)[t]?) := by
  have hgz : g.size = w.size := by rw [← L_len, hg, gp_len, L_len]
  have hend := fun t b h => gp_end (L w) i (by rw [L_len]; exact hi) t b h
  rw [← hg] at hend
  have hfo : fillOk g ss = true := by
    unfold fillOk
    rw [hp, decide_eq_true (by omega), Bool.true_and, Bool.true_and, List.all_eq_true]
    intro b hb
    obtain ⟨t, ht⟩ := List.getElem?_of_mem hb
    rcases hend t b ht with ⟨_, rfl⟩ | ⟨_, h2⟩
    · rfl
    · have := isW_all hw b (List.mem_of_getElem? h2)
      rw [Bool.or_eq_true]
      right; unfold okc; exact decide_eq_true this
  have hfb : fillB g ss = decide (tot false ss (L g) ≤ 0) := by unfold fillB; rw [hfo]; rfl
  have hbd := (total_bd false ss (L g)).1
  have ht0 : 0 ≤ tot false ss (L g) := by unfold tot; split <;> omega
  refine ⟨fun ha => ?_, fun hf => ?_⟩
  · rw [allow_dgt hp hw hl] at ha
    have hz : dfL (L g) (dgt w) = 0 := by
      rw [df_zero _ _ (by rw [dgt_len, L_len, hgz])]
      intro t b k hb hk
      unfold dif
      rcases hend t b hb with ⟨_, rfl⟩ | ⟨_, h2⟩
      · rfl
      · rw [dgt, List.getElem?_map, h2] at hk
        injection hk with hk
        have := isW_all hw b (List.mem_of_getElem? h2)
        rw [← hk, lt_back this.1 this.2]; simp
    have hlow : tot false ss (L g) ≤ 0 := by
      unfold tot
      by_cases h0 : L g = []
      · rw [if_pos h0]; exact Int.le_refl _
      · rw [if_neg h0]
        have := total_low ss (L g) h0 (dgt w) (by rw [dgt_len, L_len, hgz]) (dgt_dg hw) ha
        omega
    rw [hfb]
    refine ⟨decide_eq_true hlow, ?_⟩
    obtain ⟨q1, q2, q3, q4, q5⟩ := rep_best ss (L g) (by omega)
    have h6 := (q5 (dgt w) (by rw [dgt_len, L_len, hgz]) (dgt_dg hw) ha).2 (by omega)
    have hfs : fillS g ss = outS (repL false ss (L g)) := by rw [fillS, hfb, if_pos (decide_eq_true hlow)]; rfl
    rw [hfs]
    rcases h6 with e | e
    · rw [e, out_dgt hw]; exact List.lt_irrefl _
    · have := out_lt q2 (dgt_dg hw) e
      rw [← L_out, ← L_out, out_dgt hw] at this
      exact fun h => List.lt_asymm this h
  · have hlow : tot false ss (L g) ≤ 0 := by rw [hfb] at hf; exact of_decide_eq_true hf
    obtain ⟨q1, q2, q3, q4, _⟩ := rep_best ss (L g) (by omega)
    have hfs : fillS g ss = outS (repL false ss (L g)) := by rw [fillS, if_pos hf]; rfl
    rw [L_len] at q1
    rw [hfs]
    refine ⟨by rw [out_size, q1, hgz], out_isW q2 (by omega), by rw [allow_out hp q2 (by omega)]; exact q3, fun t ht => ?_⟩
    rw [L_out, List.getElem?_map]
    have hz := (df_zero (L g) (repL false ss (L g)) (by rw [q1, L_len])).1 (by omega)
    cases hr : (repL false ss (L g))[t]? with
    | none =>
      have := List.getElem?_eq_none_iff.1 hr
      rw [List.getElem?_eq_none (by rw [L_len]; omega)]; rfl
    | some k =>
      have hlt := (List.getElem?_eq_some_iff.1 hr).1
      obtain ⟨b, hb⟩ := some_of_lt (l := L g) (k := t) (by rw [L_len]; omega)
      have h7 := hz t b k hb hr
      rcases hend t b hb with ⟨h8, _⟩ | ⟨_, h8⟩
      · omega
      · rw [h8]
        unfold dif at h7
        have hbd := isW_all hw b (List.mem_of_getElem? h8)
        have h63 : (b == 63) = false := beq_eq_false_iff_ne.2 fun e => by rw [e] at hbd; exact absurd hbd.1 (by decide)
        rw [h63] at h7
        simp at h7
        rw [h7]; rfl
/-- A word without gaps. -/
theorem fill_word {ss : List ByteArray} (hp : pairsOk ss = true) {w : ByteArray} (hw : isW (L w) = true) (hl : w.size ≤ 40) : fillB w ss = decide (fewOf w ss = 0) ∧ (fillB w ss = true → fillS w ss = w) := by
  have hfo : fillOk w ss = true := by
    unfold fillOk
    rw [hp, decide_eq_true hl, Bool.true_and, Bool.true_and, List.all_eq_true]
    intro b hb
    have := isW_all hw b hb
    rw [Bool.or_eq_true]
    right; unfold okc; exact decide_eq_true this
  have hfb : fillB w ss = decide (tot false ss (L w) ≤ 0) := by unfold fillB; rw [hfo]; rfl
  have hbd := (total_bd false ss (L w)).1
  have ht0 : 0 ≤ tot false ss (L w) := by unfold tot; split <;> omega
  refine ⟨?_, fun hf => ?_⟩
  · rw [hfb, decide_eq_decide]
    by_cases h : tot false ss (L w) < 1000
    · rw [(rq_yes hp hw hl h).1]; omega
    · rw [(rq_no hp hw hl h).1]; omega
  · have hlow : tot false ss (L w) ≤ 0 := by rw [hfb] at hf; exact of_decide_eq_true hf
    obtain ⟨q1, q2, q3, q4, _⟩ := rep_best ss (L w) (by omega)
    rw [L_len] at q1
    rw [fillS, if_pos hf]
    show outS (repL false ss (L w)) = w
    rw [rq_same hw hl q2 q1 (by omega), out_dgt hw]
end Go.Proofs.Ytfjmopiofcbpgaa
