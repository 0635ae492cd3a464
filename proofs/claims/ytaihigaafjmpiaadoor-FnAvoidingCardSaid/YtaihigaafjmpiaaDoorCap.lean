/- Counting the words that avoid a ban with a table of what is known: the plain part. No condition. -/
import Derived.Test.YtaihigaafjmpiaaDoorUnp
import Derived.Test.YtaihigaafjmpiaaDoorSte
import Derived.Test.YtaihigaafjmpiaaDoorFnm
namespace Go.Proofs.YtaihigaafjmpiaaDoor
open Go.RowKit Go.Maps
set_option linter.unusedVariables false

theorem sumTo_le {f : Nat → Nat} {b : Nat} : ∀ (k : Nat), (∀ j, j < k → f j ≤ b) → sumTo f k ≤ k * b
  | 0, _ => by simp [sumTo]
  | k + 1, h => by
    have h1 := sumTo_le k fun j hj => h j (by omega)
    have h2 := h k (by omega)
    rw [sumTo, Nat.succ_mul]; omega
theorem cnt_le (ban : List ByteArray) (m : Nat) (hm : m ≤ 4) : ∀ (n : Nat) (e : ByteArray), cnt ban m n e ≤ 4 ^ n
  | 0, e => by simp [cnt]
  | n + 1, e => by
    rw [cnt]
    refine Nat.le_trans (sumTo_le (b := 4 ^ n) m fun j hj => ?_) ?_
    · split
      · exact cnt_le ban m hm n _
      · exact Nat.zero_le _
    · rw [Nat.pow_succ, Nat.mul_comm]; exact Nat.mul_le_mul_left _ hm
/-- The number after j letters. -/
def cntK (ban : List ByteArray) (m n : Nat) (e : ByteArray) (j : Nat) : Nat := sumTo (fun k => if avoidsB (e ++ strOf [ltr k]) ban then cnt ban m n (tl3 (e ++ strOf [ltr k])) else 0) j
theorem cntK_end (ban : List ByteArray) (m n : Nat) (e : ByteArray) : cntK ban m n e m = cnt ban m (n + 1) e := rfl
theorem cntK_zero (ban : List ByteArray) (m n : Nat) (e : ByteArray) : cntK ban m n e 0 = 0 := rfl
theorem cntK_no {ban : List ByteArray} {m n j : Nat} {e : ByteArray} (h : avoidsB (e ++ strOf [ltr j]) ban = false) : cntK ban m n e (j + 1) = cntK ban m n e j := by
  simp [cntK, sumTo, h]
theorem cntK_yes {ban : List ByteArray} {m n j : Nat} {e : ByteArray} (h : avoidsB (e ++ strOf [ltr j]) ban = true) : cntK ban m n e (j + 1) = cntK ban m n e j + cnt ban m n (tl3 (e ++ strOf [ltr j])) := by
  simp [cntK, sumTo, h]
theorem pow18 {n : Nat} (h : n ≤ 18) : 4 ^ n ≤ 68719476736 := by
  calc 4 ^ n ≤ 4 ^ 18 := Nat.pow_le_pow_right (by decide) h
    _ = 68719476736 := by decide
theorem cntK_le (ban : List ByteArray) {m n j : Nat} (e : ByteArray) (hm : m ≤ 4) (hn : n ≤ 17) (hj : j ≤ 4) : cntK ban m n e j ≤ 274877906944 := by
  refine Nat.le_trans (sumTo_le (b := 68719476736) j fun k hk => ?_) (by omega)
  split
  · exact Nat.le_trans (cnt_le ban m hm n _) (pow18 (by omega))
  · omega
/-- How many entries are laid at most. -/
def sto : Nat → Nat
  | 0 => 0
  | n + 1 => 4 * sto n + 1
theorem sto_le : ∀ (n : Nat), sto n ≤ 4 ^ n
  | 0 => by decide
  | 1 => by decide
  | n + 2 => by
    have := sto_le (n + 1)
    have h2 : 4 * sto (n + 1) + 1 ≤ 4 * sto (n + 1) + 1 := Nat.le_refl _
    have h3 : sto (n + 1) + 1 ≤ 4 ^ (n + 1) := sto_lt n
    rw [sto, Nat.pow_succ]; omega
where
  sto_lt : ∀ (n : Nat), sto (n + 1) + 1 ≤ 4 ^ (n + 1)
  | 0 => by decide
  | n + 1 => by
    have := sto_lt n
    rw [sto, Nat.pow_succ]; omega
/-- The key of an entry. -/
def keyW (i : Nat) (e : ByteArray) : ByteArray := fmtI (i : Int) ++ e
def isDg (c : UInt8) : Bool := decide (48 ≤ c.toNat ∧ c.toNat ≤ 57)
theorem small_dg : ∀ i : Nat, i < 19 → (Lib.itoa (i : Int)).all isDg = true ∧ ∀ j : Nat, j < 19 → Lib.itoa (i : Int) = Lib.itoa (j : Int) → i = j := by decide +kernel
theorem take_dg : ∀ (l m : List UInt8), l.all isDg = true → (∀ c ∈ m, 97 ≤ c.toNat ∧ c.toNat ≤ 100) → (l ++ m).takeWhile isDg = l
  | [], [], _, _ => rfl
  | [], c :: m, _, h => by
    have := h c List.mem_cons_self
    have hd : isDg c = false := decide_eq_false (by omega)
    rw [List.nil_append, List.takeWhile_cons, hd]; rfl
  | a :: l, m, h1, h2 => by
    simp only [List.all_cons, Bool.and_eq_true] at h1
    rw [List.cons_append, List.takeWhile_cons, if_pos h1.1, take_dg l m h1.2 h2]
theorem keyW_inj {i j : Nat} {e f : ByteArray} (hi : i ≤ 18) (hj : j ≤ 18) (he : wk3 e) (hf : wk3 f) (h : keyW i e = keyW j f) : i = j ∧ e = f := by
  have h1 : Lib.itoa (i : Int) ++ L e = Lib.itoa (j : Int) ++ L f := by
    have := congrArg L h
    simpa [keyW, fmtI, L, strOf, ByteArray.data_append] using this
  have h2 := take_dg _ _ (small_dg i (by omega)).1 he.2
  rw [h1, take_dg _ _ (small_dg j (by omega)).1 hf.2] at h2
  have hij := (small_dg i (by omega)).2 j (by omega) h2.symm
  subst hij
  exact ⟨rfl, bytes_ext (List.append_cancel_left h1)⟩
theorem keyW_size {i : Nat} {e : ByteArray} (hi : i ≤ 18) (he : wk3 e) : (keyW i e).size ≤ 1000 := by
  have := fmtI_size (z := (i : Int)) ⟨by omega, by omega⟩
  have := he.1
  rw [keyW, ByteArray.size_append]; omega
/-- What is known is true. -/
def Snd (ban : List ByteArray) (m : Nat) (D : DataW Unit) : Prop := ∀ i e, i ≤ 18 → wk3 e → Maps.has D (ky (keyW i e)) = true → D.atKey (ky (keyW i e)) (.lit (.int .i64 0)) = .lit (.int .i64 (cnt ban m i e))
theorem snd_none (ban : List ByteArray) (m : Nat) : Snd ban m (.map []) := fun i e _ _ h => by cases h
theorem snd_put {ban : List ByteArray} {m : Nat} {D : DataW Unit} (h : Snd ban m D) (hD : IsMap D) {i : Nat} {e : ByteArray} (hi : i ≤ 18) (he : wk3 e) : Snd ban m (D.put (ky (keyW i e)) (.lit (.int .i64 (cnt ban m i e)))) := fun j f hj hf hh => by
  by_cases hk : keyW j f = keyW i e
  · obtain ⟨rfl, rfl⟩ := keyW_inj hj hi hf he hk
    rw [Maps.atKey_put_same hD (ky_key _)]
  · have hne : ky (keyW j f) ≠ ky (keyW i e) := fun e2 => hk (ky_inj e2)
    rw [Maps.has_put_other hne] at hh
    rw [Maps.atKey_put_other hne]
    exact h j f hj hf hh
end Go.Proofs.YtaihigaafjmpiaaDoor
