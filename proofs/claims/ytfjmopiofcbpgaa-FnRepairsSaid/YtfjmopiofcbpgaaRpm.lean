/- Repairs, plain, further: how many allowed words there are. No program; the pairs are in order, each once. -/
import Derived.Test.YtfjmopiofcbpgaaRpl
import Derived.Test.YtfjmopiofcbpgaaLong
import Derived.Test.YtfjmopiofcbpgaaApp3
namespace Go.Proofs.Ytfjmopiofcbpgaa
open Go.RowKit
set_option linter.unusedVariables false

/-- How many ways n letters more may stand behind letter i. -/
def Ew (ss : List ByteArray) : Nat → Nat → Nat
  | 0, _ => 1
  | n + 1, i => (if hasP ss i 0 then Ew ss n 0 else 0) + (if hasP ss i 1 then Ew ss n 1 else 0) + (if hasP ss i 2 then Ew ss n 2 else 0) + (if hasP ss i 3 then Ew ss n 3 else 0)
def cntD (ss : List ByteArray) (n : Nat) : Nat := if n = 0 then 1 else Ew ss (n - 1) 0 + Ew ss (n - 1) 1 + Ew ss (n - 1) 2 + Ew ss (n - 1) 3
theorem Ew_bd (ss : List ByteArray) : ∀ n i, Ew ss n i ≤ 4 ^ n
  | 0, _ => Nat.le_refl _
  | n + 1, i => by
    have h0 := Ew_bd ss n 0; have h1 := Ew_bd ss n 1; have h2 := Ew_bd ss n 2; have h3 := Ew_bd ss n 3
    rw [Ew, Nat.pow_succ]
    generalize 4 ^ n = p at *
    have e : ∀ (b : Bool) (x : Nat), x ≤ p → (if b then x else 0) ≤ p := fun b x hx => by cases b <;> simp <;> omega
    have g0 := e (hasP ss i 0) _ h0; have g1 := e (hasP ss i 1) _ h1; have g2 := e (hasP ss i 2) _ h2; have g3 := e (hasP ss i 3) _ h3
    omega
theorem Ew_pos (ss : List ByteArray) : ∀ n i, 0 < Ew ss n i ↔ ∃ y : List Nat, y.length = n ∧ dg y ∧ alw ss (some i) y = true
  | 0, i => by
    constructor
    · intro _; exact ⟨[], rfl, fun k hk => by simp at hk, rfl⟩
    · intro _; exact Nat.one_pos
  | n + 1, i => by
    have key : 0 < Ew ss (n + 1) i ↔ ∃ k, k < 4 ∧ hasP ss i k = true ∧ 0 < Ew ss n k := by
      rw [Ew]
      constructor
      · intro h
        cases h0 : hasP ss i 0 <;> cases h1 : hasP ss i 1 <;> cases h2 : hasP ss i 2 <;> cases h3 : hasP ss i 3 <;> rw [h0, h1, h2, h3] at h <;> simp only [Bool.false_eq_true, if_false, if_true] at h
        all_goals
          by_cases e0 : hasP ss i 0 = true ∧ 0 < Ew ss n 0
          · exact ⟨0, by omega, e0.1, e0.2⟩
          by_cases e1 : hasP ss i 1 = true ∧ 0 < Ew ss n 1
          · exact ⟨1, by omega, e1.1, e1.2⟩
          by_cases e2 : hasP ss i 2 = true ∧ 0 < Ew ss n 2
          · exact ⟨2, by omega, e2.1, e2.2⟩
          by_cases e3 : hasP ss i 3 = true ∧ 0 < Ew ss n 3
          · exact ⟨3, by omega, e3.1, e3.2⟩
          exfalso
          rw [h0] at e0; rw [h1] at e1; rw [h2] at e2; rw [h3] at e3
          simp at e0 e1 e2 e3
          omega
      · rintro ⟨k, hk, hp, h⟩
        match k, hk with
        | 0, _ => rw [if_pos hp]; omega
        | 1, _ => rw [if_pos hp]; omega
        | 2, _ => rw [if_pos hp]; omega
        | 3, _ => rw [if_pos hp]; omega
    rw [key]
    constructor
    · rintro ⟨k, hk, hp, h⟩
      obtain ⟨y, h1, h2, h3⟩ := (Ew_pos ss n k).1 h
      exact ⟨k :: y, by rw [List.length_cons, h1], dg_cons.2 ⟨hk, h2⟩, by rw [alw, h3, Bool.and_true]; exact hp⟩
    · rintro ⟨y, h1, h2, h3⟩
      cases y with
      | nil => simp at h1
      | cons k y =>
        obtain ⟨hk, hd⟩ := dg_cons.1 h2
        rw [alw, Bool.and_eq_true] at h3
        exact ⟨k, hk, h3.1, (Ew_pos ss n k).2 ⟨y, by simpa using h1, hd, h3.2⟩⟩
theorem cntD_pos (ss : List ByteArray) (n : Nat) : 0 < cntD ss n ↔ ∃ y : List Nat, y.length = n ∧ dg y ∧ alw ss none y = true := by
  unfold cntD
  by_cases h0 : n = 0
  · subst h0
    rw [if_pos rfl]
    exact ⟨fun _ => ⟨[], rfl, fun k hk => by simp at hk, rfl⟩, fun _ => Nat.one_pos⟩
  · rw [if_neg h0]
    obtain ⟨m, rfl⟩ : ∃ m, n = m + 1 := ⟨n - 1, by omega⟩
    rw [Nat.add_sub_cancel]
    constructor
    · intro h
      have : ∃ k, k < 4 ∧ 0 < Ew ss m k := by
        by_cases e0 : 0 < Ew ss m 0
        · exact ⟨0, by omega, e0⟩
        by_cases e1 : 0 < Ew ss m 1
        · exact ⟨1, by omega, e1⟩
        by_cases e2 : 0 < Ew ss m 2
        · exact ⟨2, by omega, e2⟩
        exact ⟨3, by omega, by omega⟩
      obtain ⟨k, hk, h⟩ := this
      obtain ⟨y, h1, h2, h3⟩ := (Ew_pos ss m k).1 h
      exact ⟨k :: y, by rw [List.length_cons, h1], dg_cons.2 ⟨hk, h2⟩, by rw [alw, h3]; rfl⟩
    · rintro ⟨y, h1, h2, h3⟩
      cases y with
      | nil => simp at h1
      | cons k y =>
        obtain ⟨hk, hd⟩ := dg_cons.1 h2
        rw [alw, Bool.and_eq_true] at h3
        have := (Ew_pos ss m k).2 ⟨y, by simpa using h1, hd, h3.2⟩
        match k, hk with
        | 0, _ => omega
        | 1, _ => omega
        | 2, _ => omega
        | 3, _ => omega
/-- All lists of n letters, by number. -/
def digs : Nat → List (List Nat)
  | 0 => [[]]
  | n + 1 => (digs n).map (0 :: ·) ++ ((digs n).map (1 :: ·) ++ ((digs n).map (2 :: ·) ++ (digs n).map (3 :: ·)))
theorem digs_mem : ∀ n y, y ∈ digs n ↔ y.length = n ∧ dg y
  | 0, y => by
    simp only [digs, List.mem_singleton]
    constructor
    · rintro rfl; exact ⟨rfl, fun k hk => by simp at hk⟩
    · rintro ⟨h, _⟩; exact List.eq_nil_of_length_eq_zero h
  | n + 1, y => by
    simp only [digs, List.mem_append, List.mem_map]
    constructor
    · rintro (⟨x, hx, rfl⟩ | ⟨x, hx, rfl⟩ | ⟨x, hx, rfl⟩ | ⟨x, hx, rfl⟩) <;>
      · obtain ⟨h1, h2⟩ := (digs_mem n x).1 hx
        exact ⟨by rw [List.length_cons, h1], dg_cons.2 ⟨by omega, h2⟩⟩
    · rintro ⟨h1, h2⟩
      cases y with
      | nil => simp at h1
      | cons k y =>
        obtain ⟨hk, hd⟩ := dg_cons.1 h2
        have hy := (digs_mem n y).2 ⟨by simpa using h1, hd⟩
        match k, hk with
        | 0, _ => exact .inl ⟨y, hy, rfl⟩
        | 1, _ => exact .inr (.inl ⟨y, hy, rfl⟩)
        | 2, _ => exact .inr (.inr (.inl ⟨y, hy, rfl⟩))
        | 3, _ => exact .inr (.inr (.inr ⟨y, hy, rfl⟩))
theorem filt_cons (ss : List ByteArray) (p : Option Nat) (k : Nat) (l : List (List Nat)) : ((l.map (k :: ·)).filter (alw ss p)).length = if okA ss p k then (l.filter (alw ss (some k))).length else 0 := by
  rw [List.filter_map, List.length_map]
  have e : ∀ y, (alw ss p ∘ (k :: ·)) y = (okA ss p k && alw ss (some k) y) := fun y => rfl
  cases h : okA ss p k with
  | false =>
    rw [List.filter_eq_nil_iff.2 (fun y _ => by rw [e, h]; simp)]; simp
  | true =>
    rw [if_pos rfl]
    congr 1
    refine List.filter_congr fun y _ => ?_
    rw [e, h, Bool.true_and]
theorem Ew_cnt (ss : List ByteArray) : ∀ n i, ((digs n).filter (alw ss (some i))).length = Ew ss n i
  | 0, i => rfl
  | n + 1, i => by
    rw [digs, List.filter_append, List.filter_append, List.filter_append, List.length_append, List.length_append, List.length_append, filt_cons, filt_cons, filt_cons, filt_cons, Ew_cnt ss n, Ew_cnt ss n, Ew_cnt ss n, Ew_cnt ss n, Ew]
    show (if hasP ss i 0 = true then Ew ss n 0 else 0) + ((if hasP ss i 1 = true then Ew ss n 1 else 0) + ((if hasP ss i 2 = true then Ew ss n 2 else 0) + (if hasP ss i 3 = true then Ew ss n 3 else 0))) = _
    rw [Nat.add_assoc, Nat.add_assoc]
theorem cntD_cnt (ss : List ByteArray) : ∀ n, ((digs n).filter (alw ss none)).length = cntD ss n
  | 0 => rfl
  | n + 1 => by
    rw [digs, List.filter_append, List.filter_append, List.filter_append, List.length_append, List.length_append, List.length_append, filt_cons, filt_cons, filt_cons, filt_cons, Ew_cnt, Ew_cnt, Ew_cnt, Ew_cnt, cntD]
    rw [if_neg (Nat.succ_ne_zero n), Nat.add_sub_cancel]
    show Ew ss n 0 + (Ew ss n 1 + (Ew ss n 2 + Ew ss n 3)) = _
    omega
theorem lt_nat {k : Nat} (h : k < 4) : (lt k).toNat = 97 + k := by unfold lt; rw [UInt8.toNat_ofNat']; omega
theorem lt_inj {i k : Nat} (hi : i < 4) (hk : k < 4) (h : lt i = lt k) : i = k := by have h1 := lt_nat hi; have h2 := lt_nat hk; rw [h] at h1; omega
theorem prS_L (p k : Nat) : L (prS p k) = [lt p, lt k] := by unfold prS; rw [strOf_L]
/-- A pair is told by its two letters. -/
theorem pair_is {s : ByteArray} (h : pairW s = true) {i k : Nat} (hi : i < 4) (hk : k < 4) : s = prS i k ↔ la s 0 = i ∧ la s 1 = k := by
  obtain ⟨a, b, hL, ha1, ha2, hb1, hb2⟩ := pair_letters h
  have e1 : la s 0 = a.toNat - 97 := by rw [la, hL]; rfl
  have e2 : la s 1 = b.toNat - 97 := by rw [la, hL]; rfl
  have h1 := lt_nat hi; have h2 := lt_nat hk
  constructor
  · intro e
    have h3 := prS_L i k
    rw [← e, hL] at h3
    injection h3 with h4 h5
    injection h5 with h5
    rw [e1, e2, h4, h5]; omega
  · rintro ⟨e3, e4⟩
    refine bytes_ext (show L s = L (prS i k) from ?_)
    rw [prS_L, hL]
    have q1 : a = lt i := UInt8.toNat_inj.1 (by omega)
    have q2 : b = lt k := UInt8.toNat_inj.1 (by omega)
    rw [q1, q2]
theorem la_lt {s : ByteArray} (h : pairW s = true) : la s 0 < 4 ∧ la s 1 < 4 := by
  obtain ⟨a, b, hL, ha1, ha2, hb1, hb2⟩ := pair_letters h
  have e1 : la s 0 = a.toNat - 97 := by rw [la, hL]; rfl
  have e2 : la s 1 = b.toNat - 97 := by rw [la, hL]; rfl
  omega
theorem prGo_gt : ∀ (r : List ByteArray) (q : ByteArray), pairW q = true → prGo (some q) r = true → ∀ x ∈ r, code q < code x
  | [], _, _, _, x, hx => by simp at hx
  | s :: r, q, hq, h, x, hx => by
    rw [prGo_cons] at h
    simp only [Bool.and_eq_true, Bool.not_eq_true'] at h
    obtain ⟨⟨h1, h2⟩, h3⟩ := h
    have hl := (code_lt h1 hq h2).1
    rcases List.mem_cons.1 hx with rfl | hx
    · exact hl
    · exact Nat.lt_trans hl (prGo_gt r s h1 h3 x hx)
/-- What the pairs that begin with letter i give. -/
def smAt (cs : List Int) (i : Nat) : List ByteArray → Int
  | [] => 0
  | s :: r => (if la s 0 = i then cs.getD (la s 1) 0 else 0) + smAt cs i r
theorem ctGo_sm {M : Int} {cs : List Int} (hc : Bd M cs) (hM : 0 ≤ M) (i : Nat) (hi : i < 4) : ∀ (ss : List ByteArray) (N : Int) (nx : List Int), nx.length = 4 → Bd N nx → N + ss.length * M ≤ 9223372036854775807 → (∀ s ∈ ss, la s 0 < 4) → (ctGo cs ss nx).getD i 0 = nx.getD i 0 + smAt cs i ss
  | [], N, nx, _, _, _, _ => by rw [smAt]; simp [ctGo]
  | s :: r, N, nx, hl, hn, h, hla => by
    have hlm : ((s :: r).length : Int) * M = M + r.length * M := by
      rw [List.length_cons, Int.natCast_add, Int.add_mul]; omega
    have hr : 0 ≤ (r.length : Int) * M := Int.mul_nonneg (by omega) hM
    rw [hlm] at h
    have hst := hc.step hn hM (by omega) s
    have ih := ctGo_sm hc hM i hi r (N + M) (ctStep1 cs nx s) (by rw [ctStep1, List.length_set, hl]) hst (by omega) (fun x hx => hla x (List.mem_cons_of_mem _ hx))
    show (ctGo cs r (ctStep1 cs nx s)).getD i 0 = _
    rw [ih, smAt]
    have h1 := hn (la s 0); have h2 := hc (la s 1)
    unfold ctStep1
    rw [getD_set, hl]
    have h4 := hla s (by simp)
    by_cases e : la s 0 = i
    · rw [if_pos ⟨e, h4⟩, if_pos e, IntWalk.wrap64_in _ (by omega), e]; omega
    · rw [if_neg (fun hh => e hh.1), if_neg e]; omega
theorem smAt_has (cs : List Int) (i : Nat) (hi : i < 4) : ∀ (ss : List ByteArray) (p : Option ByteArray), prGo p ss = true →
    smAt cs i ss = (if hasP ss i 0 then cs.getD 0 0 else 0) + (if hasP ss i 1 then cs.getD 1 0 else 0) + (if hasP ss i 2 then cs.getD 2 0 else 0) + (if hasP ss i 3 then cs.getD 3 0 else 0)
  | [], p, _ => by
    have : ∀ k, hasP [] i k = false := fun k => by unfold hasP hasS atIx ixGo; rfl
    simp [smAt, this]
  | s :: r, p, h => by
    rw [prGo_cons] at h
    simp only [Bool.and_eq_true] at h
    obtain ⟨⟨h1, _⟩, h3⟩ := h
    have ih := smAt_has cs i hi r (some s) h3
    have hgt := prGo_gt r s h1 h3
    have hne : ∀ k, k < 4 → la s 0 = i → la s 1 = k → hasP r i k = false := fun k hk e1 e2 => by
      cases hh : hasP r i k with
      | false => rfl
      | true =>
        unfold hasP at hh
        rw [hasS_mem] at hh
        have := hgt _ hh
        rw [← (pair_is h1 hi hk).2 ⟨e1, e2⟩] at this
        omega
    have hcons : ∀ k, k < 4 → hasP (s :: r) i k = (decide (la s 0 = i ∧ la s 1 = k) || hasP r i k) := fun k hk => by
      rw [Bool.eq_iff_iff]
      unfold hasP
      rw [Bool.or_eq_true, hasS_mem, hasS_mem, List.mem_cons, decide_eq_true_eq, ← pair_is h1 hi hk]
      constructor
      · rintro (e | e)
        · exact .inl e.symm
        · exact .inr e
      · rintro (e | e)
        · exact .inl e.symm
        · exact .inr e
    rw [smAt, ih, hcons 0 (by omega), hcons 1 (by omega), hcons 2 (by omega), hcons 3 (by omega)]
    have h4 := (la_lt h1).2
    by_cases e : la s 0 = i
    · rw [if_pos e]
      have n0 := hne 0 (by omega) e; have n1 := hne 1 (by omega) e; have n2 := hne 2 (by omega) e; have n3 := hne 3 (by omega) e
      generalize la s 1 = k at *
      rcases show k = 0 ∨ k = 1 ∨ k = 2 ∨ k = 3 by omega with rfl | rfl | rfl | rfl
      · rw [n0 rfl]; simp [e]; omega
      · rw [n1 rfl]; simp [e]; omega
      · rw [n2 rfl]; simp [e]; omega
      · rw [n3 rfl]; simp [e]; omega
    · rw [if_neg e]; simp [e]
theorem ctRun_Ew {ss : List ByteArray} (hp : pairsOk ss = true) : ∀ n, n ≤ 19 → Bd (4 ^ n : Nat) (ctRun ss n) ∧ ∀ i, i < 4 → (ctRun ss n).getD i 0 = (Ew ss n i : Int)
  | 0, _ => by
    refine ⟨fun i => ?_, fun i hi => ?_⟩
    · match i with
      | 0 => exact (show (0 : Int) ≤ 1 ∧ (1 : Int) ≤ 1 by decide)
      | 1 => exact (show (0 : Int) ≤ 1 ∧ (1 : Int) ≤ 1 by decide)
      | 2 => exact (show (0 : Int) ≤ 1 ∧ (1 : Int) ≤ 1 by decide)
      | 3 => exact (show (0 : Int) ≤ 1 ∧ (1 : Int) ≤ 1 by decide)
      | i + 4 => simp [ctRun]
    · match i, hi with
      | 0, _ => rfl
      | 1, _ => rfl
      | 2, _ => rfl
      | 3, _ => rfl
  | n + 1, hn => by
    obtain ⟨ihb, ih⟩ := ctRun_Ew hp n (by omega)
    have hl := pairs_len hp
    have hz : Bd 0 [0, 0, 0, 0] := by
      intro i
      match i with
      | 0 => decide
      | 1 => decide
      | 2 => decide
      | 3 => decide
      | i + 4 => simp
    have h18 : (4 : Nat) ^ n ≤ 4 ^ 18 := Nat.pow_le_pow_right (by decide) (by omega)
    have h18' : (4 : Nat) ^ 18 = 68719476736 := by decide
    have hmul : (ss.length : Int) * ((4 ^ n : Nat) : Int) ≤ 16 * ((4 ^ n : Nat) : Int) := Int.mul_le_mul_of_nonneg_right (by omega) (Int.natCast_nonneg _)
    have h0p : (0 : Int) ≤ ((4 ^ n : Nat) : Int) := Int.natCast_nonneg _
    have h18i : ((4 ^ n : Nat) : Int) ≤ ((68719476736 : Nat) : Int) := Int.ofNat_le.2 (Nat.le_trans h18 (Nat.le_of_eq h18'))
    have hval : ∀ i, i < 4 → (ctRun ss (n + 1)).getD i 0 = (Ew ss (n + 1) i : Int) := fun i hi => by
      show (ctGo (ctRun ss n) ss [0, 0, 0, 0]).getD i 0 = _
      rw [ctGo_sm ihb h0p i hi ss 0 [0, 0, 0, 0] rfl hz (by omega) (fun s hs => (la_lt (prGo_all ss none hp s hs)).1), smAt_has _ i hi ss none hp, ih 0 (by omega), ih 1 (by omega), ih 2 (by omega), ih 3 (by omega), Ew]
      have hz0 : ([0, 0, 0, 0] : List Int).getD i 0 = 0 := by
        match i, hi with
        | 0, _ => rfl
        | 1, _ => rfl
        | 2, _ => rfl
        | 3, _ => rfl
      rw [hz0]
      cases hasP ss i 0 <;> cases hasP ss i 1 <;> cases hasP ss i 2 <;> cases hasP ss i 3 <;> simp
    refine ⟨fun i => ?_, hval⟩
    by_cases hi : i < 4
    · rw [hval i hi]
      have := Ew_bd ss (n + 1) i
      exact ⟨by omega, by exact_mod_cast this⟩
    · rw [List.getD_eq_getElem?_getD, List.getElem?_eq_none (by rw [ctRun_length]; omega)]
      exact ⟨Int.le_refl _, Int.natCast_nonneg _⟩
theorem ctAll_D {ss : List ByteArray} (hp : pairsOk ss = true) (n : Nat) (hn : n ≤ 20) : ctAll ss n = (cntD ss n : Int) := by
  unfold ctAll cntD
  by_cases h0 : n = 0
  · rw [if_pos h0, if_pos h0]; rfl
  · rw [if_neg h0, if_neg h0]
    obtain ⟨_, h⟩ := ctRun_Ew hp (n - 1) (by omega)
    unfold sum4
    rw [h 0 (by omega), h 1 (by omega), h 2 (by omega), h 3 (by omega)]
    have h19 : (4 : Nat) ^ (n - 1) ≤ 4 ^ 19 := Nat.pow_le_pow_right (by decide) (by omega)
    have h19' : (4 : Nat) ^ 19 = 274877906944 := by decide
    have b0 := Ew_bd ss (n - 1) 0; have b1 := Ew_bd ss (n - 1) 1; have b2 := Ew_bd ss (n - 1) 2; have b3 := Ew_bd ss (n - 1) 3
    generalize 4 ^ (n - 1) = P at *
    generalize Ew ss (n - 1) 0 = a at *; generalize Ew ss (n - 1) 1 = b at *; generalize Ew ss (n - 1) 2 = c at *; generalize Ew ss (n - 1) 3 = d at *
    rw [IntWalk.wrap64_in ((a : Int) + b) (by omega), IntWalk.wrap64_in ((a : Int) + b + c) (by omega), IntWalk.wrap64_in ((a : Int) + b + c + d) (by omega)]
    omega
end Go.Proofs.Ytfjmopiofcbpgaa
