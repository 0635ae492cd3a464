/- Repairs, plain, further: words and their letters by number; allowed words; long words. No program. -/
import Derived.Test.YtfjmopiofcbpgaaRpm
import Derived.Test.YtfjmopiofcbpgaaRepF
namespace Go.Proofs.Ytfjmopiofcbpgaa
open Go.RowKit
set_option linter.unusedVariables false

def dgt (s : ByteArray) : List Nat := (L s).map fun b => b.toNat - 97
theorem dgt_len (s : ByteArray) : (dgt s).length = s.size := by rw [dgt, List.length_map, L_len]
theorem okc_bd {b : UInt8} (h : okc b = true) : 97 ≤ b.toNat ∧ b.toNat ≤ 100 := by unfold okc at h; exact of_decide_eq_true h
theorem isW_all {l : List UInt8} (h : isW l = true) : ∀ b ∈ l, 97 ≤ b.toNat ∧ b.toNat ≤ 100 := fun b hb => by
  unfold isW at h
  simp only [Bool.and_eq_true, List.all_eq_true] at h
  exact okc_bd (h.1 b hb)
theorem lt_back {b : UInt8} (h1 : 97 ≤ b.toNat) (h2 : b.toNat ≤ 100) : lt (b.toNat - 97) = b := UInt8.toNat_inj.1 (by have := lt_nat (k := b.toNat - 97) (by omega); omega)
theorem dgt_dg {s : ByteArray} (h : isW (L s) = true) : dg (dgt s) := fun k hk => by
  obtain ⟨b, hb, rfl⟩ := List.mem_map.1 hk
  have := isW_all h b hb
  omega
theorem out_dgt {s : ByteArray} (h : isW (L s) = true) : outS (dgt s) = s := by
  refine bytes_ext (show L (outS (dgt s)) = L s from ?_)
  rw [outS, strOf_L, dgt, List.map_map]
  refine (List.map_congr_left fun b hb => ?_).trans (List.map_id _)
  have := isW_all h b hb
  exact lt_back this.1 this.2
theorem L_out (o : List Nat) : L (outS o) = o.map lt := by rw [outS, strOf_L]
theorem out_size (o : List Nat) : (outS o).size = o.length := by rw [← L_len, L_out, List.length_map]
theorem dgt_out {o : List Nat} (h : dg o) : dgt (outS o) = o := by
  rw [dgt, L_out, List.map_map]
  refine (List.map_congr_left fun k hk => ?_).trans (List.map_id _)
  have := lt_nat (h k hk)
  simp only [Function.comp, id]; omega
theorem out_isW {o : List Nat} (h : dg o) (hl : o.length ≤ 400) : isW (L (outS o)) = true := by
  rw [L_out]
  unfold isW
  rw [Bool.and_eq_true, List.all_eq_true, decide_eq_true_eq, List.length_map]
  refine ⟨fun b hb => ?_, hl⟩
  obtain ⟨k, hk, rfl⟩ := List.mem_map.1 hb
  have h1 := lt_nat (h k hk)
  have := h k hk
  unfold okc
  exact decide_eq_true (by omega)
theorem alw_iff (ss : List ByteArray) : ∀ (y : List Nat) (p : Option Nat), alw ss p y = true ↔ (∀ k, y[0]? = some k → okA ss p k = true) ∧ ∀ i a b, y[i]? = some a → y[i + 1]? = some b → hasP ss a b = true
  | [], p => by simp [alw]
  | k :: y, p => by
    rw [alw, Bool.and_eq_true, alw_iff ss y (some k)]
    constructor
    · rintro ⟨h1, h2, h3⟩
      refine ⟨fun j hj => by simp at hj; subst hj; exact h1, fun i a b ha hb => ?_⟩
      cases i with
      | zero => simp at ha; subst ha; exact h2 b (by simpa using hb)
      | succ i => exact h3 i a b (by simpa using ha) (by simpa using hb)
    · rintro ⟨h1, h2⟩
      exact ⟨h1 k rfl, fun j hj => h2 0 k j rfl (by simpa using hj), fun i a b ha hb => h2 (i + 1) a b (by simpa using ha) (by simpa using hb)⟩
theorem two_out {y : List Nat} {i a b : Nat} (ha : y[i]? = some a) (hb : y[i + 1]? = some b) : two (outS y) (i + 1) = prS a b := by
  refine bytes_ext (show L (two (outS y) (i + 1)) = L (prS a b) from ?_)
  rw [prS_L, two, L_extract, L_out, Nat.add_sub_cancel]
  obtain ⟨h1, rfl⟩ := List.getElem?_eq_some_iff.1 ha
  obtain ⟨h2, rfl⟩ := List.getElem?_eq_some_iff.1 hb
  refine List.ext_getElem? fun j => ?_
  rw [List.getElem?_drop, List.getElem?_take]
  match j with
  | 0 => rw [if_pos (by omega), List.getElem?_map, Nat.add_zero, ha]; rfl
  | 1 => rw [if_pos (by omega), List.getElem?_map, hb]; rfl
  | j + 2 => rw [if_neg (by omega)]; simp
theorem outs_zero (ss : List ByteArray) : ∀ ws : List ByteArray, outs ss ws = 0 ↔ ∀ x ∈ ws, hasS ss x = true
  | [] => by simp [outs]
  | x :: r => by
    rw [outs]
    have ih := outs_zero ss r
    cases h : hasS ss x with
    | true => rw [if_pos rfl, Nat.zero_add, ih]; simp [h]
    | false => simp [h]
theorem prs_all (ss : List ByteArray) (y : List Nat) : (∀ x ∈ prs (outS y), hasS ss x = true) ↔ alw ss none y = true := by
  rw [alw_iff]
  have hp : ∀ i, i + 1 < y.length → ∃ a b, y[i]? = some a ∧ y[i + 1]? = some b := fun i hi => by
    obtain ⟨a, ha⟩ := some_of_lt (l := y) (k := i) (by omega)
    obtain ⟨b, hb⟩ := some_of_lt (l := y) (k := i + 1) hi
    exact ⟨a, b, ha, hb⟩
  unfold prs prsTo
  constructor
  · intro h
    refine ⟨fun k _ => rfl, fun i a b ha hb => ?_⟩
    have hi := (List.getElem?_eq_some_iff.1 hb).1
    have := h (two (outS y) (i + 1)) (List.mem_map.2 ⟨i, by rw [List.mem_range, out_size]; omega, rfl⟩)
    rw [two_out ha hb] at this
    exact this
  · rintro ⟨_, h⟩ x hx
    obtain ⟨i, hi, rfl⟩ := List.mem_map.1 hx
    rw [List.mem_range, out_size] at hi
    obtain ⟨a, b, ha, hb⟩ := hp i (by omega)
    rw [two_out ha hb]
    exact h i a b ha hb
theorem allow_out {ss : List ByteArray} (hp : pairsOk ss = true) {y : List Nat} (hd : dg y) (hl : y.length ≤ 40) : allowB (outS y) ss = alw ss none y := by
  have h1 : repOk (outS y) ss = true := by
    unfold repOk
    rw [out_isW hd (by omega), hp, decide_eq_true (by rw [out_size]; exact hl)]; rfl
  unfold allowB
  rw [h1, Bool.true_and, Bool.eq_iff_iff, decide_eq_true_eq, outs_zero, ← prs_all]
  simp [prsL]
theorem allow_dgt {ss : List ByteArray} (hp : pairsOk ss = true) {s : ByteArray} (hw : isW (L s) = true) (hl : s.size ≤ 40) : allowB s ss = alw ss none (dgt s) := by
  have := allow_out hp (dgt_dg hw) (by rw [dgt_len]; exact hl)
  rwa [out_dgt hw] at this
theorem fa_iff (ss : List ByteArray) (s : ByteArray) : ∀ n k, 1 ≤ k → (faGo ss s n k = -1 ↔ ∀ j, k ≤ j → j < k + n → hasS ss (two s j) = true)
  | 0, k, _ => by
    constructor
    · intro _ j h1 h2; omega
    · intro _; rfl
  | n + 1, k, hk => by
    rw [faGo]
    by_cases h : hasS ss (two s k) = true
    · rw [if_pos h, fa_iff ss s n (k + 1) (by omega)]
      constructor
      · intro h2 j h3 h4
        by_cases e : j = k
        · subst e; exact h
        · exact h2 j (by omega) (by omega)
      · intro h2 j h3 h4; exact h2 j (by omega) (by omega)
    · rw [if_neg h]
      constructor
      · intro h2; omega
      · intro h2; exact absurd (h2 k (Nat.le_refl _) (by omega)) h
theorem fault_dgt {ss : List ByteArray} (hp : pairsOk ss = true) {s : ByteArray} (hw : isW (L s) = true) (hl : s.size ≤ 40) : faultOf s ss = -1 ↔ alw ss none (dgt s) = true := by
  have h1 : repOk s ss = true := by unfold repOk; rw [hw, hp, decide_eq_true hl]; rfl
  rw [faultOf, if_pos h1, fa_iff _ _ _ _ (Nat.le_refl _), ← prs_all, out_dgt hw]
  unfold prs prsTo
  constructor
  · intro h x hx
    obtain ⟨i, hi, rfl⟩ := List.mem_map.1 hx
    rw [List.mem_range] at hi
    exact h (i + 1) (by omega) (by omega)
  · intro h j h2 h3
    have := h (two s j) (List.mem_map.2 ⟨j - 1, by rw [List.mem_range]; omega, by rw [show j - 1 + 1 = j by omega]⟩)
    exact this
theorem df_mism : ∀ (l m : List UInt8), l.length = m.length → (∀ b ∈ l, 97 ≤ b.toNat ∧ b.toNat ≤ 100) → (∀ b ∈ m, 97 ≤ b.toNat ∧ b.toNat ≤ 100) → dfL l (m.map fun b => b.toNat - 97) = (mism m l : Nat)
  | [], [], _, _, _ => rfl
  | b :: l, c :: m, h, h1, h2 => by
    have ih := df_mism l m (by simpa using h) (fun x hx => h1 x (List.mem_cons_of_mem _ hx)) (fun x hx => h2 x (List.mem_cons_of_mem _ hx))
    have hb := h1 b (by simp); have hc := h2 c (by simp)
    rw [List.map_cons, dfL, mism, ih]
    unfold dif
    rw [lt_back hc.1 hc.2]
    have h63 : (b == 63) = false := beq_eq_false_iff_ne.2 fun e => by rw [e] at hb; exact absurd hb.1 (by decide)
    rw [h63]
    by_cases e : c = b
    · subst e; simp
    · have : (b == c) = false := beq_eq_false_iff_ne.2 fun h => e h.symm
      rw [this, if_neg e]; simp
theorem df_words {s t : ByteArray} (hs : isW (L s) = true) (ht : isW (L t) = true) (h : s.size = t.size) : dfL (L s) (dgt t) = (mism (L t) (L s) : Nat) :=
  df_mism _ _ (by rw [L_len, L_len, h]) (isW_all hs) (isW_all ht)
theorem out_lt : ∀ {x y : List Nat}, dg x → dg y → x < y → x.map lt < y.map lt
  | _, [], _, _, h => absurd h (List.not_lt_nil _)
  | [], k :: y, _, _, _ => List.nil_lt_cons _ _
  | i :: x, k :: y, hx, hy, h => by
    obtain ⟨hi, hx2⟩ := dg_cons.1 hx
    obtain ⟨hk, hy2⟩ := dg_cons.1 hy
    rw [List.map_cons, List.map_cons]
    rcases List.cons_lt_cons_iff.1 h with h3 | ⟨h4, h3⟩
    · refine List.cons_lt_cons_iff.2 (.inl ?_)
      rw [UInt8.lt_iff_toNat_lt, lt_nat hi, lt_nat hk]; omega
    · exact List.cons_lt_cons_iff.2 (.inr ⟨by rw [h4], out_lt hx2 hy2 h3⟩)
theorem df_zero : ∀ (l : List UInt8) (x : List Nat), x.length = l.length → (dfL l x = 0 ↔ ∀ (i : Nat) (b : UInt8) (k : Nat), l[i]? = some b → x[i]? = some k → dif b k = false)
  | [], [], _ => by simp [dfL]
  | b :: l, k :: x, h => by
    have ih := df_zero l x (by simpa using h)
    have hb := dfL_bd l x
    rw [dfL]
    constructor
    · intro h0
      have h1 : dif b k = false := by
        cases e : dif b k with
        | false => rfl
        | true => rw [e, if_pos rfl] at h0; omega
      rw [h1] at h0
      intro i c j hc hj
      cases i with
      | zero => simp at hc hj; subst hc hj; exact h1
      | succ i => exact ih.1 (by simpa using h0) i c j (by simpa using hc) (by simpa using hj)
    · intro h0
      rw [h0 0 b k rfl rfl, ih.2 (fun i c j hc hj => h0 (i + 1) c j (by simpa using hc) (by simpa using hj))]; rfl
/-- A long allowed word makes longer ones. -/
theorem long_alw {ss : List ByteArray} {y : List Nat} (hl : y.length = 5) (hd : dg y) (ha : alw ss none y = true) (n : Nat) : ∃ z : List Nat, z.length = n ∧ dg z ∧ alw ss none z = true := by
  have h2 := ((alw_iff ss y none).1 ha).2
  have hy : ∀ i, i < 5 → ∃ a, y[i]? = some a ∧ a < 4 := fun i hi => by
    obtain ⟨a, h⟩ := some_of_lt (l := y) (k := i) (by omega)
    exact ⟨a, h, hd a (List.mem_of_getElem? h)⟩
  have hpg : ∃ i j, i < j ∧ j < 5 ∧ y[i]? = y[j]? := by
    obtain ⟨a, ea, ha⟩ := hy 0 (by omega); obtain ⟨b, eb, hb⟩ := hy 1 (by omega); obtain ⟨c, ec, hc⟩ := hy 2 (by omega); obtain ⟨d, ed, hd⟩ := hy 3 (by omega); obtain ⟨e, ee, he⟩ := hy 4 (by omega)
    by_cases h01 : a = b
    · exact ⟨0, 1, by omega, by omega, by rw [ea, eb, h01]⟩
    by_cases h02 : a = c
    · exact ⟨0, 2, by omega, by omega, by rw [ea, ec, h02]⟩
    by_cases h03 : a = d
    · exact ⟨0, 3, by omega, by omega, by rw [ea, ed, h03]⟩
    by_cases h04 : a = e
    · exact ⟨0, 4, by omega, by omega, by rw [ea, ee, h04]⟩
    by_cases h12 : b = c
    · exact ⟨1, 2, by omega, by omega, by rw [eb, ec, h12]⟩
    by_cases h13 : b = d
    · exact ⟨1, 3, by omega, by omega, by rw [eb, ed, h13]⟩
    by_cases h14 : b = e
    · exact ⟨1, 4, by omega, by omega, by rw [eb, ee, h14]⟩
    by_cases h23 : c = d
    · exact ⟨2, 3, by omega, by omega, by rw [ec, ed, h23]⟩
    by_cases h24 : c = e
    · exact ⟨2, 4, by omega, by omega, by rw [ec, ee, h24]⟩
    by_cases h34 : d = e
    · exact ⟨3, 4, by omega, by omega, by rw [ed, ee, h34]⟩
    omega
  obtain ⟨i, j, hij, hj, hyy⟩ := hpg
  have hq : 0 < j - i := by omega
  have hstep : ∀ t, hasP ss (y.getD (i + t % (j - i)) 0) (y.getD (i + (t + 1) % (j - i)) 0) = true := fun t => by
    have hm := Nat.mod_lt t hq
    by_cases he : t % (j - i) + 1 = j - i
    · have hz : (t + 1) % (j - i) = 0 := by rw [Nat.add_mod, ← Nat.mod_add_mod] ; simp [he]
      obtain ⟨a, ea, _⟩ := hy (i + t % (j - i)) (by omega)
      obtain ⟨b, eb, _⟩ := hy (i + t % (j - i) + 1) (by omega)
      have := h2 _ a b ea eb
      have e1 : y.getD (i + t % (j - i)) 0 = a := by rw [List.getD_eq_getElem?_getD, ea]; rfl
      have e2 : y.getD (i + (t + 1) % (j - i)) 0 = b := by
        rw [hz, Nat.add_zero, List.getD_eq_getElem?_getD, hyy, show j = i + t % (j - i) + 1 by omega, eb]; rfl
      rw [e1, e2]; exact this
    · have hz : (t + 1) % (j - i) = t % (j - i) + 1 := by
        rw [← Nat.mod_add_mod]; exact Nat.mod_eq_of_lt (by omega)
      obtain ⟨a, ea, _⟩ := hy (i + t % (j - i)) (by omega)
      obtain ⟨b, eb, _⟩ := hy (i + t % (j - i) + 1) (by omega)
      have := h2 _ a b ea eb
      have e1 : y.getD (i + t % (j - i)) 0 = a := by rw [List.getD_eq_getElem?_getD, ea]; rfl
      have e2 : y.getD (i + (t + 1) % (j - i)) 0 = b := by
        rw [hz, ← Nat.add_assoc, List.getD_eq_getElem?_getD, eb]; rfl
      rw [e1, e2]; exact this
  refine ⟨(List.range n).map fun t => y.getD (i + t % (j - i)) 0, by simp, fun k hk => ?_, ?_⟩
  · obtain ⟨t, _, rfl⟩ := List.mem_map.1 hk
    have hm := Nat.mod_lt t hq
    obtain ⟨a, ea, ha4⟩ := hy (i + t % (j - i)) (by omega)
    rw [List.getD_eq_getElem?_getD, ea]; exact ha4
  · rw [alw_iff]
    refine ⟨fun k _ => rfl, fun t a b ha hb => ?_⟩
    have ht := (List.getElem?_eq_some_iff.1 hb).1
    rw [List.length_map, List.length_range] at ht
    rw [List.getElem?_map, List.getElem?_range (by omega)] at ha hb
    injection ha with ha
    injection hb with hb
    rw [← ha, ← hb]; exact hstep t
end Go.Proofs.Ytfjmopiofcbpgaa
