/- What a numeral says, in two ways that agree: the plain part of ParseInt. No condition. -/
import Derived.Test.YtfkdkcipnkkplaaDoorFmt
import Derived.Lib.AtoiAll
import Derived.Lib.AtoiAllCases
import Derived.Lib.ItoaMem
namespace Go.Proofs.YtfkdkcipnkkplaaDoor
open Go.RowKit
set_option linter.unusedVariables false

theorem dg_nat {d : Nat} (h : d < 10) : (UInt8.ofNat (48 + d)).toNat = 48 + d := by
  rw [UInt8.toNat_ofNat']; omega
theorem pu_snoc : ∀ (l : List UInt8) (acc a : Nat) (c : UInt8), Lib.parseUint10 acc l = .ok a → Lib.parseUint10 acc (l ++ [c]) = Lib.parseUint10 a [c]
  | [], acc, a, c, h => by
    simp only [Lib.parseUint10] at h
    injection h with h
    rw [h]; rfl
  | x :: l, acc, a, c, h => by
    rw [Lib.parseUint10] at h
    rw [List.cons_append, Lib.parseUint10]
    split at h
    · rename_i h1
      rw [if_pos h1]
      split at h
      · cases h
      · rename_i h2
        rw [if_neg h2]
        split at h
        · cases h
        · rename_i h3
          rw [if_neg h3]
          exact pu_snoc l _ a c h
    · cases h
theorem pu_dd (u : Nat) : u < 18446744073709551616 → Lib.parseUint10 0 (Lib.decDigits u) = .ok u := by
  induction u using Nat.strongRecOn with
  | ind u ih =>
    intro hu
    by_cases h : u < 10
    · rw [dd_small h, Lib.parseUint10, dg_nat h, if_pos (by omega), if_neg (by omega), if_neg (by omega), Lib.parseUint10]
      congr 1; omega
    · rw [dd_big h, pu_snoc _ _ _ _ (ih (u / 10) (by omega) (by omega)), Lib.parseUint10, dg_nat (by omega), if_pos (by omega), if_neg (by omega), if_neg (by omega), Lib.parseUint10]
      congr 1; omega
theorem dd_ne (u : Nat) : Lib.decDigits u ≠ [] := by
  by_cases h : u < 10
  · rw [dd_small h]; simp
  · rw [dd_big h]; simp
theorem dd_dig (u : Nat) : ∀ c ∈ Lib.decDigits u, 48 ≤ c.toNat ∧ c.toNat ≤ 57 := by
  induction u using Nat.strongRecOn with
  | ind u ih =>
    intro c hc
    by_cases h : u < 10
    · rw [dd_small h] at hc
      rw [List.mem_singleton.1 hc, dg_nat h]; omega
    · rw [dd_big h, List.mem_append, List.mem_singleton] at hc
      rcases hc with hc | hc
      · exact ih (u / 10) (by omega) c hc
      · rw [hc, dg_nat (by omega)]; omega
theorem atoi_itoa {v : Int} (hv : I64 v) : Lib.atoiAll (Lib.itoa v) = .ok v := by
  unfold I64 at hv
  by_cases h : 0 ≤ v
  · obtain ⟨u, rfl⟩ : ∃ u : Nat, v = (u : Int) := ⟨v.toNat, by omega⟩
    rw [Lib.itoa_nonneg]
    have hp := pu_dd u (by omega)
    have hd := dd_dig u
    cases hl : Lib.decDigits u with
    | nil => exact absurd hl (dd_ne u)
    | cons c r =>
      rw [hl] at hp hd
      have hc := hd c List.mem_cons_self
      have hpm : Lib.parseMag (c :: r) = .ok u := by rw [Lib.parseMag, if_neg (by simp), hp]
      rw [Lib.atoiAll]
      simp only [if_neg (show ¬ (c.toNat = 43 ∨ c.toNat = 45) by omega), hpm]
      rw [if_neg (by omega), if_neg (by omega), if_neg (by omega)]
  · obtain ⟨u, rfl⟩ : ∃ u : Nat, v = -(u : Int) := ⟨(-v).toNat, by omega⟩
    rw [Lib.itoa_neg u (by omega)]
    have hp := pu_dd u (by omega)
    have hpm : Lib.parseMag (Lib.decDigits u) = .ok u := by rw [Lib.parseMag, if_neg (dd_ne u), hp]
    rw [Lib.atoiAll]
    simp only [if_pos (show ((45 : UInt8).toNat = 43 ∨ (45 : UInt8).toNat = 45) from .inr rfl), hpm]
    have h45 : (45 : UInt8).toNat = 45 := rfl
    rw [if_neg (by omega), if_neg (by omega), if_pos h45]
/-- The program's way. -/
def iP (s : ByteArray) : Option Int := match Lib.atoiAll (L s) with
  | .ok v => if Lib.itoa v = L s then some v else none
  | _ => none
theorem iP_iff (s : ByteArray) (v : Int) : iP s = some v ↔ I64 v ∧ L s = Lib.itoa v := by
  constructor
  · intro h
    unfold iP at h
    split at h
    · rename_i x hx
      split at h
      · rename_i h2
        injection h with h
        subst h
        have := Lib.atoiAll_bounds hx
        exact ⟨⟨by omega, by omega⟩, h2.symm⟩
      · cases h
    · cases h
  · rintro ⟨h1, h2⟩
    rw [iP, h2, atoi_itoa h1]
    simp
/-- The reference's loop: downwards from zero. -/
def spGo : List UInt8 → Int → Option Int
  | [], n => some n
  | c :: r, n => if n < (-9223372036854775808 + ((c.toNat : Int) - 48)).tdiv 10 then none else spGo r (n * 10 - ((c.toNat : Int) - 48))
theorem sg_snoc : ∀ (l : List UInt8) (n a : Int) (c : UInt8), spGo l n = some a → spGo (l ++ [c]) n = spGo [c] a
  | [], n, a, c, h => by
    simp only [spGo] at h
    injection h with h
    rw [h]; rfl
  | x :: l, n, a, c, h => by
    rw [spGo] at h
    rw [List.cons_append, spGo]
    split at h
    · cases h
    · rename_i h1
      rw [if_neg h1]
      exact sg_snoc l _ a c h
theorem tdiv_neg10 (m : Nat) : (-(m : Int)).tdiv 10 = -((m / 10 : Nat) : Int) := by
  rw [Int.neg_tdiv]
  rfl
theorem sg_dd (u : Nat) : u ≤ 9223372036854775808 → spGo (Lib.decDigits u) 0 = some (-(u : Int)) := by
  induction u using Nat.strongRecOn with
  | ind u ih =>
    intro hu
    by_cases h : u < 10
    · have e1 : (-9223372036854775808 + (((48 + u : Nat) : Int) - 48)) = -((9223372036854775808 - u : Nat) : Int) := by omega
      rw [dd_small h, spGo, dg_nat h, e1, tdiv_neg10, if_neg (by omega), spGo]
      congr 1; omega
    · have e1 : (-9223372036854775808 + (((48 + u % 10 : Nat) : Int) - 48)) = -((9223372036854775808 - u % 10 : Nat) : Int) := by omega
      rw [dd_big h, sg_snoc _ _ _ _ (ih (u / 10) (by omega) (by omega)), spGo, dg_nat (by omega), e1, tdiv_neg10, if_neg (by omega), spGo]
      congr 1; omega
/-- The reference's way. -/
def negB (s : ByteArray) : Bool := decide ((L s).head? = some 45)
def bodyS (s : ByteArray) : List UInt8 := if negB s then (L s).drop 1 else L s
def isDs (l : List UInt8) : Bool := l.all (fun c => decide (48 ≤ c.toNat ∧ c.toNat ≤ 57)) && !l.isEmpty
def signS (neg : Bool) (n : Int) : Option Int := if neg then some n else if n = -9223372036854775808 then none else some (-n)
def sP (s : ByteArray) : Option Int :=
  if isDs (bodyS s) && decide ((bodyS s).length ≤ 19) then
    match spGo (bodyS s) 0 with
    | none => none
    | some n => match signS (negB s) n with
      | none => none
      | some v => if Lib.itoa v = L s then some v else none
  else none
theorem isDs_dd (u : Nat) : isDs (Lib.decDigits u) = true := by
  rw [isDs, Bool.and_eq_true, List.all_eq_true]
  refine ⟨fun c hc => decide_eq_true (dd_dig u c hc), ?_⟩
  have := dd_ne u
  cases h : Lib.decDigits u with
  | nil => exact absurd h this
  | cons a l => rfl
theorem spGo_bound : ∀ (l : List UInt8) (n v : Int), (∀ c ∈ l, 48 ≤ c.toNat ∧ c.toNat ≤ 57) → (-9223372036854775808 ≤ n ∧ n ≤ 0) → spGo l n = some v → -9223372036854775808 ≤ v ∧ v ≤ 0
  | [], n, v, _, hn, h => by
    simp only [spGo] at h
    injection h with h
    rw [← h]; exact hn
  | c :: l, n, v, hl, hn, h => by
    rw [spGo] at h
    have hc := hl c List.mem_cons_self
    have e1 : (-9223372036854775808 + ((c.toNat : Int) - 48)) = -((9223372036854775808 - (c.toNat - 48) : Nat) : Int) := by omega
    rw [e1, tdiv_neg10] at h
    split at h
    · cases h
    · exact spGo_bound l _ v (fun x hx => hl x (List.mem_cons_of_mem _ hx)) (by omega) h
theorem sP_iff (s : ByteArray) (v : Int) : sP s = some v ↔ I64 v ∧ L s = Lib.itoa v := by
  constructor
  · intro h
    unfold sP at h
    split at h
    · rename_i hd
      rw [Bool.and_eq_true, isDs, Bool.and_eq_true, List.all_eq_true] at hd
      split at h
      · cases h
      · rename_i n hn
        have hb := spGo_bound _ 0 n (fun c hc => of_decide_eq_true (hd.1.1 c hc)) (by omega) hn
        split at h
        · cases h
        · rename_i v2 hv2
          split at h
          · rename_i h3
            injection h with h
            subst h
            refine ⟨?_, h3.symm⟩
            unfold signS at hv2
            split at hv2
            · injection hv2 with hv2; subst hv2; exact ⟨by omega, by omega⟩
            · split at hv2
              · cases hv2
              · injection hv2 with hv2; subst hv2; exact ⟨by omega, by omega⟩
          · cases h
    · cases h
  · rintro ⟨h1, h2⟩
    unfold I64 at h1
    by_cases h : 0 ≤ v
    · obtain ⟨u, rfl⟩ : ∃ u : Nat, v = (u : Int) := ⟨v.toNat, by omega⟩
      rw [Lib.itoa_nonneg] at h2
      have hneg : negB s = false := by
        rw [negB, h2]
        refine decide_eq_false fun h3 => ?_
        have h4 := List.mem_of_mem_head? (Option.mem_def.2 h3)
        have h5 := dd_dig u 45 h4
        exact absurd h5.1 (by decide)
      have hb : bodyS s = Lib.decDigits u := by rw [bodyS, hneg, h2]; rfl
      have hlen := dd_len 19 u (by omega) (by omega)
      rw [sP, hb, isDs_dd, decide_eq_true hlen, sg_dd u (by omega), hneg]
      simp only [Bool.and_self, if_true]
      rw [signS, if_neg (by simp), if_neg (by omega)]
      simp only [Int.neg_neg]
      rw [Lib.itoa_nonneg, if_pos h2.symm]
    · obtain ⟨u, rfl⟩ : ∃ u : Nat, v = -(u : Int) := ⟨(-v).toNat, by omega⟩
      have hi := Lib.itoa_neg u (by omega)
      rw [hi] at h2
      have hneg : negB s = true := by rw [negB, h2]; rfl
      have hb : bodyS s = Lib.decDigits u := by rw [bodyS, hneg, h2]; rfl
      have hlen := dd_len 19 u (by omega) (by omega)
      rw [sP, hb, isDs_dd, decide_eq_true hlen, sg_dd u (by omega), hneg]
      simp only [Bool.and_self, if_true]
      rw [signS, if_pos rfl]
      simp only
      rw [hi, if_pos h2.symm]
theorem iP_eq (s : ByteArray) : iP s = sP s := by
  cases h : iP s with
  | none =>
    cases h2 : sP s with
    | none => rfl
    | some v => rw [(iP_iff s v).2 ((sP_iff s v).1 h2)] at h; cases h
  | some v => rw [(sP_iff s v).2 ((iP_iff s v).1 h)]
end Go.Proofs.YtfkdkcipnkkplaaDoor
