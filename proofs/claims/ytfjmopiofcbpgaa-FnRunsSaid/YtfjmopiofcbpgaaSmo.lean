/- Runs of letters, the plain part: runs, their words, smooth words. No condition. -/
import Derived.Test.YtfjmopiofcbpgaaBin
namespace Go.Proofs.Ytfjmopiofcbpgaa
open Go.RowKit
set_option linter.unusedVariables false

def bump (a : List Int) : List Int := a.set (a.length - 1) (a.getD (a.length - 1) 0 + 1)
def opn (a : List Int) (p : Option UInt8) (b : UInt8) : List Int := if p = some b then a else a ++ [0]
def rg (a : List Int) (p : Option UInt8) : List UInt8 → List Int
  | [] => a
  | b :: l => rg (bump (opn a p b)) (some b) l
/-- The lengths of the runs. -/
def runsOf (l : List UInt8) : List Int := rg [] none l
def lastOf (l : List UInt8) (k : Nat) : Option UInt8 := if k = 0 then none else l[k - 1]?
theorem lastOf_succ (l : List UInt8) (k : Nat) : lastOf l (k + 1) = l[k]? := by simp [lastOf]
def tot2 (a : List Int) : Int := a.foldl (· + ·) 0
/-- What holds of the runs of k letters. -/
structure RunOk (a : List Int) (k : Nat) : Prop where
  pos : ∀ x ∈ a, 1 ≤ x
  sum : a.sum = (k : Int)
theorem sum_ge : ∀ {a : List Int}, (∀ x ∈ a, 1 ≤ x) → (a.length : Int) ≤ a.sum
  | [], _ => by simp
  | x :: a, h => by
    have h1 := h x List.mem_cons_self
    have h2 := sum_ge (a := a) fun y hy => h y (List.mem_cons_of_mem _ hy)
    simp; omega
theorem mem_le : ∀ {a : List Int} {x : Int}, (∀ x ∈ a, 1 ≤ x) → x ∈ a → x + (a.length - 1 : Nat) ≤ a.sum
  | [], x, _, h => by simp at h
  | y :: a, x, h, hx => by
    have h1 := h y List.mem_cons_self
    have h2 := sum_ge (a := a) fun z hz => h z (List.mem_cons_of_mem _ hz)
    rcases List.mem_cons.1 hx with rfl | hx
    · simp; omega
    · have h3 := mem_le (a := a) (fun z hz => h z (List.mem_cons_of_mem _ hz)) hx
      have : a.length ≠ 0 := by intro h; rw [List.eq_nil_of_length_eq_zero h] at hx; simp at hx
      simp; omega
theorem bump_snoc (a : List Int) (x : Int) : bump (a ++ [x]) = a ++ [x + 1] := by
  unfold bump
  simp [List.getD_eq_getElem?_getD]
theorem RunOk.step {a : List Int} {k : Nat} {p : Option UInt8} {b : UInt8} (h : RunOk a k) (hp : p = none → a = []) (hq : p ≠ none → a ≠ []) : RunOk (bump (opn a p b)) (k + 1) ∧ bump (opn a p b) ≠ [] := by
  unfold opn
  by_cases hb : p = some b
  · rw [if_pos hb]
    have hne := hq (by rw [hb]; exact fun h => by cases h)
    obtain ⟨a', x, rfl⟩ : ∃ a' x, a = a' ++ [x] := ⟨a.dropLast, a.getLast hne, (List.dropLast_concat_getLast hne).symm⟩
    rw [bump_snoc]
    refine ⟨⟨fun y hy => ?_, ?_⟩, by simp⟩
    · rcases List.mem_append.1 hy with hy | hy
      · exact h.pos y (List.mem_append_left _ hy)
      · have := h.pos x (List.mem_append_right _ (by simp))
        simp at hy; omega
    · have := h.sum
      simp at this ⊢; omega
  · rw [if_neg hb, bump_snoc]
    refine ⟨⟨fun y hy => ?_, ?_⟩, by simp⟩
    · rcases List.mem_append.1 hy with hy | hy
      · exact h.pos y hy
      · simp at hy; omega
    · have := h.sum
      simp at this ⊢; omega
theorem rg_ok : ∀ (l : List UInt8) (a : List Int) (p : Option UInt8) (k : Nat), RunOk a k → (p = none → a = []) → (p ≠ none → a ≠ []) → RunOk (rg a p l) (k + l.length) ∧ (rg a p l = [] → l = [])
  | [], a, p, k, h, _, _ => ⟨h, fun _ => rfl⟩
  | b :: l, a, p, k, h, h1, h2 => by
    have hs := h.step (b := b) h1 h2
    have := rg_ok l (bump (opn a p b)) (some b) (k + 1) hs.1 (fun h => by cases h) (fun _ => hs.2)
    rw [rg]
    refine ⟨?_, fun hn => ?_⟩
    · have h3 := this.1
      rw [List.length_cons, show k + (l.length + 1) = k + 1 + l.length from by omega]
      exact h3
    · have h3 := this.2 hn
      subst h3
      rw [rg] at hn
      exact absurd hn hs.2
theorem runs_ok (l : List UInt8) : RunOk (runsOf l) l.length := by
  have := (rg_ok l [] none 0 ⟨by simp, rfl⟩ (fun _ => rfl) (fun h => absurd rfl h)).1
  rwa [Nat.zero_add] at this
theorem runs_len (l : List UInt8) : (runsOf l).length ≤ l.length := by
  have h := runs_ok l
  have := sum_ge h.pos
  rw [h.sum] at this; omega
theorem runs_mem (l : List UInt8) {x : Int} (hx : x ∈ runsOf l) : 1 ≤ x ∧ x + ((runsOf l).length - 1 : Nat) ≤ l.length := by
  have h := runs_ok l
  have := mem_le h.pos hx
  rw [h.sum] at this
  exact ⟨h.pos x hx, this⟩

def lw (v : Int) : UInt8 := if v = 1 then 97 else 98
def small (r : List Int) : Bool := r.all fun x => decide (x ≤ 2)
def cut1 (r : List Int) : List Int := if r.getD (r.length - 1) 0 = 1 then r.take (r.length - 1) else r
def cut2 (r : List Int) : List Int := if r.getD 0 0 = 1 then r.drop 1 else r
/-- The runs without the first and the last one, where these are of one letter. -/
def strip (r : List Int) : List Int := if r.length < 2 then r else cut2 (cut1 r)
theorem small_append (a b : List Int) : small (a ++ b) = (small a && small b) := by simp [small]
theorem cut1_eq (r : List Int) (h : r ≠ []) : ∃ a, r = cut1 r ++ a ∧ (a = [] ∨ a = [1]) := by
  obtain ⟨r', x, rfl⟩ : ∃ a' x, r = a' ++ [x] := ⟨r.dropLast, r.getLast h, (List.dropLast_concat_getLast h).symm⟩
  unfold cut1
  by_cases hx : x = 1
  · subst hx
    exact ⟨[1], by simp [List.getD_eq_getElem?_getD], .inr rfl⟩
  · exact ⟨[], by simp [List.getD_eq_getElem?_getD, hx], .inl rfl⟩
theorem cut2_eq (r : List Int) : ∃ a, r = a ++ cut2 r ∧ (a = [] ∨ a = [1]) := by
  cases r with
  | nil => exact ⟨[], rfl, .inl rfl⟩
  | cons x r =>
    unfold cut2
    by_cases hx : x = 1
    · subst hx; exact ⟨[1], rfl, .inr rfl⟩
    · exact ⟨[], by simp [hx], .inl rfl⟩
theorem strip_eq (r : List Int) : ∃ a b, r = a ++ strip r ++ b ∧ (a = [] ∨ a = [1]) ∧ (b = [] ∨ b = [1]) := by
  unfold strip
  by_cases h : r.length < 2
  · rw [if_pos h]; exact ⟨[], [], by simp, .inl rfl, .inl rfl⟩
  · rw [if_neg h]
    obtain ⟨b, hb, hb2⟩ := cut1_eq r (by intro h0; rw [h0] at h; simp at h)
    obtain ⟨a, ha, ha2⟩ := cut2_eq (cut1 r)
    exact ⟨a, b, by rw [← ha]; exact hb, ha2, hb2⟩
theorem strip_small (r : List Int) : small (strip r) = small r := by
  obtain ⟨a, b, h, ha, hb⟩ := strip_eq r
  have h1 : small a = true := by rcases ha with rfl | rfl <;> rfl
  have h2 : small b = true := by rcases hb with rfl | rfl <;> rfl
  conv => rhs; rw [h]
  rw [small_append, small_append, h1, h2]; simp
theorem strip_mem {r : List Int} {x : Int} (h : x ∈ strip r) : x ∈ r := by
  obtain ⟨a, b, he, _, _⟩ := strip_eq r
  rw [he]; simp [h]
theorem strip_len (r : List Int) : (strip r).length ≤ r.length := by
  obtain ⟨a, b, he, _, _⟩ := strip_eq r
  have := congrArg List.length he
  simp at this; omega
/-- A word of two letters or more becomes shorter. -/
theorem strip_short (l : List UInt8) (h : 2 ≤ l.length) : (strip (runsOf l)).length < l.length := by
  have h1 := runs_len l
  have h2 := strip_len (runsOf l)
  by_cases he : (runsOf l).length = l.length
  · have hone : ∀ x ∈ runsOf l, x = 1 := fun x hx => by
      have := runs_mem l hx
      omega
    have hd : ∀ (r : List Int), (∀ x ∈ r, x = 1) → 2 ≤ r.length → (strip r).length < r.length := fun r hr hl => by
      have hg : ∀ k, k < r.length → r.getD k 0 = 1 := fun k hk => by
        rw [List.getD_eq_getElem?_getD, List.getElem?_eq_getElem hk]
        exact hr _ (List.getElem_mem hk)
      have hc : cut1 r = r.take (r.length - 1) := by rw [cut1, if_pos (hg _ (by omega))]
      obtain ⟨a, ha, _⟩ := cut2_eq (cut1 r)
      have := congrArg List.length ha
      rw [strip, if_neg (by omega)]
      rw [List.length_append, hc, List.length_take] at this
      rw [hc]; omega
    have := hd _ hone (by omega)
    omega
  · omega
/-- The word of the inner runs. -/
def inW (l : List UInt8) : List UInt8 := (strip (runsOf l)).map lw
def inB (l : List UInt8) : Bool := small (runsOf l)
theorem inW_short (l : List UInt8) (h : 2 ≤ l.length) : (inW l).length < l.length := by
  rw [inW, List.length_map]; exact strip_short l h
def smo : Nat → List UInt8 → Bool
  | 0, _ => true
  | f + 1, l => if l.length < 2 then true else if inB l then smo f (inW l) else false
theorem smo_fuel : ∀ (f g : Nat) (l : List UInt8), l.length ≤ f → l.length ≤ g → smo f l = smo g l
  | 0, 0, l, _, _ => rfl
  | 0, g + 1, l, h, _ => by rw [smo, smo, if_pos (by omega)]
  | f + 1, 0, l, _, h => by rw [smo, smo, if_pos (by omega)]
  | f + 1, g + 1, l, h1, h2 => by
    rw [smo, smo]
    by_cases h : l.length < 2
    · rw [if_pos h, if_pos h]
    · rw [if_neg h, if_neg h]
      have := inW_short l (by omega)
      rw [smo_fuel f g (inW l) (by omega) (by omega)]
def smoothL (l : List UInt8) : Bool := smo l.length l
theorem smooth_le {l : List UInt8} (h : l.length < 2) : smoothL l = true := by
  unfold smoothL
  cases hl : l.length with
  | zero => rfl
  | succ n => rw [smo, if_pos h]
theorem smooth_step {l : List UInt8} (h : ¬ l.length < 2) : smoothL l = (inB l && smoothL (inW l)) := by
  unfold smoothL
  obtain ⟨n, hn⟩ : ∃ n, l.length = n + 1 := ⟨l.length - 1, by omega⟩
  have hs := inW_short l (by omega)
  rw [hn, smo, if_neg h, smo_fuel n (inW l).length (inW l) (by omega) (Nat.le_refl _)]
  cases inB l <;> rfl
theorem inW_word (l : List UInt8) (h : l.length ≤ 400) : isW (inW l) = true := by
  have h1 := strip_len (runsOf l)
  have h2 := runs_len l
  unfold isW
  simp only [Bool.and_eq_true, decide_eq_true_eq, List.all_eq_true]
  refine ⟨fun b hb => ?_, by rw [inW, List.length_map]; omega⟩
  obtain ⟨v, _, rfl⟩ := List.mem_map.1 hb
  unfold lw; split <;> rfl
def smoothS (s : ByteArray) : Bool := binW (L s) && smoothL (L s)
end Go.Proofs.Ytfjmopiofcbpgaa
