/- One letter further on, walked: what the reference's step returns; the last three letters. No condition but the bounds. -/
import Derived.Test.YtaihigaafjmpiaaDoorStp
import Derived.RegionTactic
import Derived.BigRegion
import Derived.ChangeAlike
namespace Go.Proofs.YtaihigaafjmpiaaDoor
open Go.RowKit
set_option linter.unusedVariables false

theorem banOk_len {ban : List ByteArray} (h : banOk ban = true) : ban.length ≤ 8 := by
  unfold banOk at h
  simp only [Bool.and_eq_true, decide_eq_true_eq] at h
  exact h.2
abbrev iN (n : Nat) : Value := .int .i64 (n : Int)
def sm (P : List (ByteArray × Nat)) : Nat := (cns P).sum
theorem sm_upd : ∀ (P : List (ByteArray × Nat)) (w : ByteArray) (c : Nat), sm (upd P w c) = sm P + c
  | [], w, c => by simp [upd, sm, cns]
  | (v, d) :: r, w, c => by
    unfold upd
    split
    · simp [sm, cns]; omega
    · have := sm_upd r w c
      simp only [sm, cns, List.map_cons, List.sum_cons] at this ⊢; omega
theorem sm_stK (ban : List ByteArray) (e : ByteArray) (c : Nat) : ∀ (k : Nat) (Q : List (ByteArray × Nat)), sm (stK ban e c k Q) ≤ sm Q + k * c
  | 0, Q => by simp [stK]
  | k + 1, Q => by
    have ih := sm_stK ban e c k Q
    unfold stK
    rw [Nat.succ_mul]
    split
    · rw [sm_upd]; omega
    · omega
theorem sm_stE (ban : List ByteArray) (m : Nat) : ∀ (P Q : List (ByteArray × Nat)), sm (stE ban m P Q) ≤ sm Q + m * sm P
  | [], Q => by simp [stE]
  | x :: P, Q => by
    have ih := sm_stE ban m P (stK ban x.1 x.2 m Q)
    have h2 := sm_stK ban x.1 x.2 m Q
    rw [stE, List.foldl_cons, ← stE]
    have : m * sm (x :: P) = m * x.2 + m * sm P := by simp [sm, cns, Nat.mul_add]
    omega
theorem sm_at {P : List (ByteArray × Nat)} {i d : Nat} (h : (cns P)[i]? = some d) : d ≤ sm P := by
  unfold sm
  generalize cns P = l at h
  induction l generalizing i with
  | nil => simp at h
  | cons a l ih =>
    cases i with
    | zero => simp at h; subst h; simp
    | succ i => have := ih (i := i) (by simpa using h); simp; omega
theorem sm_take (P : List (ByteArray × Nat)) (i : Nat) : sm (P.take i) ≤ sm P := by
  have : sm P = sm (P.take i) + sm (P.drop i) := by
    rw [sm, sm, sm, ← List.sum_append, cns, cns, cns, ← List.map_append, List.take_append_drop]
  omega
/-- The state before the i-th word's k-th letter. -/
def stS (ban : List ByteArray) (m : Nat) (P : List (ByteArray × Nat)) (i : Nat) (e : ByteArray) (c k : Nat) : List (ByteArray × Nat) := stK ban e c k (stE ban m (P.take i) [])
theorem stS_ok {ban : List ByteArray} {m i k : Nat} {P : List (ByteArray × Nat)} {e : ByteArray} {c : Nat} (hm : m ≤ 4) (hk : k ≤ 4) (hwk : ∀ x ∈ nms P, wk3 x) (he : wk3 e) : (stS ban m P i e c k).length ≤ 125 ∧ sm (stS ban m P i e c k) ≤ 4 * sm P + 4 * c := by
  have h1 : WK (stE ban m (P.take i) []) := WK.stE hm (fun x hx => hwk x (by
    rw [nms, List.map_take] at hx
    exact List.mem_of_mem_take hx)) WK.nil
  refine ⟨(WK.stK he hk h1).len, ?_⟩
  have h2 := sm_stK ban e c k (stE ban m (P.take i) [])
  have h3 := sm_stE ban m (P.take i) []
  have h4 := sm_take P i
  have h5 : m * sm (P.take i) ≤ 4 * sm P := Nat.mul_le_mul hm h4
  have h6 : k * c ≤ 4 * c := Nat.mul_le_mul_right _ hk
  have h7 : sm [] = 0 := rfl
  unfold stS
  omega
theorem maxl (n : Nat) : max 0 ((n : Int) - 3) = ((n - 3 : Nat) : Int) := by omega
theorem maxr (n : Nat) : max ((n : Int) - 3) 0 = ((n - 3 : Nat) : Int) := by omega
theorem tail_any (s : ByteArray) (hs : s.size ≤ 1048576) (w : World) :
    Calls Tryd.prog 28 #[.string s] w fun e w' => e = .returned (.string (tl3 s)) ∧ w = w' := by
  have h1 := maxr s.size
  have h2 : ((s.size - 3 : Nat) : Int) ≤ (s.size : Int) := by omega
  have h3 : tl3 s = s.extract (s.size - 3) s.size := rfl
  have H3 := Lib.hid h3
  clear h3
  go_enter Tryd.func28, Tryd.ntmps28
  go_wp2_with fail
  go_ret
  exact ⟨by rw [H3.out]; rfl, rfl⟩
end Go.Proofs.YtaihigaafjmpiaaDoor
