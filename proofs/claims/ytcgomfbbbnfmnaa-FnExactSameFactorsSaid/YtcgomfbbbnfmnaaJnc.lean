/- Join with a comma; from the joined words the words. No condition but the bounds. -/
import Derived.Test.YtcgomfbbbnfmnaaFac
import Derived.Test.YtcgomfbbbnfmnaaShelf
namespace Go.Proofs.Ytcgomfbbbnfmnaa
open Go.RowKit
set_option linter.unusedVariables false

/-- The words of a list with commas between them. -/
def jcL (l : List ByteArray) : List UInt8 := Lib.join (l.map L) [44]
theorem jc_snoc (l : List ByteArray) (x : ByteArray) : jcL (l ++ [x]) = if l = [] then L x else jcL l ++ [44] ++ L x := by
  induction l with
  | nil => simp [jcL, Lib.join, List.intercalate]
  | cons y l ih =>
    rw [if_neg (by simp)]
    cases l with
    | nil => simp [jcL, Lib.join, List.intercalate]
    | cons z l =>
      rw [if_neg (by simp)] at ih
      have h1 : ∀ m : List ByteArray, m ≠ [] → jcL (y :: m) = L y ++ [44] ++ jcL m := fun m hm => by
        cases m with
        | nil => exact absurd rfl hm
        | cons a b => simp [jcL, Lib.join, List.intercalate]
      rw [List.cons_append, h1 _ (by simp), ih, h1 _ (by simp)]
      simp
theorem jc_take (l : List ByteArray) (h : ∀ x ∈ l, x.size ≤ 400) : ∀ k, k ≤ l.length → (jcL (l.take k)).length ≤ 401 * k
  | 0, _ => by simp [jcL, Lib.join, List.intercalate]
  | k + 1, hk => by
    have h1 := jc_take l h k (by omega)
    obtain ⟨x, hx⟩ := some_of_lt (l := l) (k := k) (by omega)
    have h2 := h x (List.mem_of_getElem? hx)
    have he : jcL (l.take (k + 1)) = if l.take k = [] then L x else jcL (l.take k) ++ [44] ++ L x := by rw [List.take_add_one, hx]; exact jc_snoc _ _
    rw [he]
    split
    · rw [L_len]; omega
    · simp only [List.length_append, List.length_singleton, L_len]; omega
theorem jc_len (l : List ByteArray) (h : ∀ x ∈ l, x.size ≤ 400) : (jcL l).length ≤ 401 * l.length := by
  have := jc_take l h l.length (Nat.le_refl _)
  rwa [List.take_length] at this
theorem strOf_appC (a b : List UInt8) : strOf a ++ strOf b = strOf (a ++ b) := by
  apply bytes_ext; simp [strOf, ByteArray.data_append]
theorem jc_one (y : ByteArray) : jcL [y] = L y := by simp [jcL, Lib.join, List.intercalate]
theorem jc_cons (y : ByteArray) {m : List ByteArray} (hm : m ≠ []) : jcL (y :: m) = L y ++ 44 :: jcL m := by
  cases m with
  | nil => exact absurd rfl hm
  | cons a b => simp [jcL, Lib.join, List.intercalate]
theorem pre_inj : ∀ (a b r q : List UInt8), (∀ x ∈ a, x ≠ 44) → (∀ x ∈ b, x ≠ 44) → (∀ y r', r = y :: r' → y = 44) → (∀ y r', q = y :: r' → y = 44) → a ++ r = b ++ q → a = b ∧ r = q
  | [], [], r, q, _, _, _, _, h => ⟨rfl, by simpa using h⟩
  | [], y :: b, r, q, _, hb, hr, _, h => absurd (hr y (b ++ q) (by simpa using h)) (hb y List.mem_cons_self)
  | x :: a, [], r, q, ha, _, _, hq, h => absurd (hq x (a ++ r) (by simpa using h.symm)) (ha x List.mem_cons_self)
  | x :: a, y :: b, r, q, ha, hb, hr, hq, h => by
    rw [List.cons_append, List.cons_append] at h
    injection h with h1 h2
    have := pre_inj a b r q (fun z hz => ha z (List.mem_cons_of_mem _ hz)) (fun z hz => hb z (List.mem_cons_of_mem _ hz)) hr hq h2
    exact ⟨by rw [h1, this.1], this.2⟩
def tlc (l : List ByteArray) : List UInt8 := if l = [] then [] else 44 :: jcL l
theorem jc_tl (y : ByteArray) (l : List ByteArray) : jcL (y :: l) = L y ++ tlc l := by
  unfold tlc
  by_cases h : l = []
  · rw [if_pos h, h, jc_one, List.append_nil]
  · rw [if_neg h, jc_cons y h]
theorem tlc_hd (l : List ByteArray) : ∀ y r', tlc l = y :: r' → y = 44 := fun y r' h => by
  unfold tlc at h
  split at h
  · simp at h
  · injection h with h1 _; exact h1.symm
def NoC (x : ByteArray) : Prop := x.size ≠ 0 ∧ ∀ b ∈ L x, b ≠ 44
theorem jc_inj : ∀ {l m : List ByteArray}, (∀ x ∈ l, NoC x) → (∀ x ∈ m, NoC x) → jcL l = jcL m → l = m
  | [], [], _, _, _ => rfl
  | [], b :: m, _, h2, h => by
    rw [jc_tl] at h
    have h3 := (h2 b List.mem_cons_self).1
    have h4 := congrArg List.length h
    rw [List.length_append, L_len] at h4
    have h5 : (jcL []).length = 0 := by simp [jcL, Lib.join, List.intercalate]
    omega
  | a :: l, [], h1, _, h => by
    rw [jc_tl] at h
    have h3 := (h1 a List.mem_cons_self).1
    have h4 := congrArg List.length h
    rw [List.length_append, L_len] at h4
    have h5 : (jcL []).length = 0 := by simp [jcL, Lib.join, List.intercalate]
    omega
  | a :: l, b :: m, h1, h2, h => by
    rw [jc_tl, jc_tl] at h
    have h3 := pre_inj _ _ _ _ (h1 a List.mem_cons_self).2 (h2 b List.mem_cons_self).2 (tlc_hd l) (tlc_hd m) h
    have hab : a = b := bytes_ext h3.1
    have hlm : jcL l = jcL m := by
      have h4 := h3.2
      unfold tlc at h4
      by_cases hl : l = []
      · by_cases hm : m = []
        · rw [hl, hm]
        · rw [if_pos hl, if_neg hm] at h4; simp at h4
      · by_cases hm : m = []
        · rw [if_neg hl, if_pos hm] at h4; simp at h4
        · rw [if_neg hl, if_neg hm] at h4; injection h4
    rw [hab, jc_inj (fun x hx => h1 x (List.mem_cons_of_mem _ hx)) (fun x hx => h2 x (List.mem_cons_of_mem _ hx)) hlm]
theorem fc_mem {s : ByteArray} {n : Nat} {x : ByteArray} (h : x ∈ fc s n) : ∃ i, i + n ≤ s.size ∧ x = s.extract i (i + n) := by
  unfold fc fcT at h
  obtain ⟨i, hi, rfl⟩ := List.mem_map.1 h
  have := List.mem_range.1 hi
  exact ⟨i, by omega, rfl⟩
theorem fc_noC {s : ByteArray} {n : Nat} (hs : isW (L s) = true) (hn : n ≠ 0) : ∀ x ∈ insL (fc s n), NoC x := fun x hx => by
  obtain ⟨i, hi, rfl⟩ := fc_mem ((insL_mem _ _).1 hx)
  refine ⟨by rw [ByteArray.size_extract]; omega, fun b hb => ?_⟩
  rw [L_extract] at hb
  have hb2 : b ∈ L s := List.mem_of_mem_take (List.mem_of_mem_drop hb)
  simp only [isW, Bool.and_eq_true, List.all_eq_true] at hs
  have := hs.1 b hb2
  unfold okc at this
  have := of_decide_eq_true this
  intro h; subst h; revert this; decide
theorem fc_len (s : ByteArray) (n : Nat) : (insL (fc s n)).length ≤ s.size + 1 := by
  have h1 := insL_len (fc s n)
  have h2 : (fc s n).length = s.size + 1 - n := fcT_len _ _ _
  omega
theorem fc_size (s : ByteArray) (n : Nat) : ∀ x ∈ insL (fc s n), x.size ≤ s.size := fun x hx => fcT_size ((insL_mem _ _).1 hx)
set_option maxRecDepth 4000 in
set_option maxHeartbeats 400000 in
theorem sJoinC_any (l : List ByteArray) (A : Option Addr) (c B : Nat) (w : World) (hl : l.length ≤ 1000) (hz : ∀ x ∈ l, x.size ≤ 400) (hrd : Rds w B A (l.map Value.string)) :
    Calls Try.prog 36 #[.slice A l.length c, .string { data := #[44] }] w fun e w' => e = .returned (.string (strOf (jcL l))) ∧ w = w' := by
  have HR := Lib.hid hrd; have HZ := Lib.hid hz
  clear hrd hz
  go_enter Try.func36, Try.ntmps36
  go_wp2_with fail
  go_loop [5, 6, 7, 10] (fun v _ _ i => ∃ k : Nat, k ≤ l.length ∧ i = .int .i64 k ∧ ∃ acc : ByteArray, v = .string acc ∧ acc = strOf (jcL (l.take k))) (fun _ _ _ i => l.length - (intOf i).toNat)
  case atStart => exact ⟨0, by omega, rfl, _, rfl, rfl⟩
  case round =>
    obtain ⟨k, hk, rfl, acc, rfl, hacc⟩ := hrel
    have HACC := Lib.hid hacc
    by_cases hlt : k < l.length
    · obtain ⟨x, hx⟩ := some_of_lt (l := l) (k := k) hlt
      obtain ⟨ad, rfl, hc⟩ := HR.out.at_ (map_at Value.string hx)
      have hxs := HZ.out x (List.mem_of_getElem? hx)
      have hjn : jcL (l.take (k + 1)) = if l.take k = [] then L x else jcL (l.take k) ++ [44] ++ L x := by rw [List.take_add_one, hx]; exact jc_snoc _ _
      have hjl := jc_take l HZ.out k hk
      obtain ⟨sz, hsz⟩ : ∃ sz, (jcL (l.take k)).length = sz := ⟨_, rfl⟩
      have hs1 : acc.size = sz := by rw [hacc, strOf_size, hsz]
      have hsb : sz ≤ 401000 := by rw [← hsz]; omega
      have hxL : strOf (L x) = x := bytes_ext (by rw [show (strOf (L x)).data.toList = L (strOf (L x)) from rfl, strOf_L])
      clear hx hjl hsz hacc
      by_cases hk0 : k = 0
      · subst hk0
        have hfin : strOf (jcL (l.take (0 + 1))) = acc ++ x := by
          rw [HACC.out, hjn, if_pos (by simp), hxL]
          show x = strOf [] ++ x
          apply bytes_ext; simp [strOf, ByteArray.data_append]
        have HF := Lib.hid hfin
        have hc0 : w.cell? ad = some (.string x) := by simpa [Addr.add] using hc
        clear hjn hfin hxL
        go_wp2_with fail
        go_round
        case rel => exact ⟨0 + 1, by omega, by go_num, _, rfl, HF.out.symm⟩
        case measure => simp [intOf]; omega
      · have hne : ¬ l.take k = [] := by intro h; have := congrArg List.length h; rw [List.length_take, List.length_nil] at this; omega
        have hfin : strOf (jcL (l.take (k + 1))) = acc ++ { data := #[44] } ++ x := by
          rw [HACC.out, hjn, if_neg hne]
          conv => rhs; rw [← hxL]
          show _ = strOf (jcL (l.take k)) ++ strOf [44] ++ strOf (L x)
          rw [strOf_appC, strOf_appC]
        have hs2 : (acc ++ ({ data := #[44] } : ByteArray)).size = sz + 1 := by
          rw [ByteArray.size_append, hs1]; rfl
        have hkp : decide (0 < (k : Int)) = true := by simp; omega
        have HF := Lib.hid hfin
        clear hjn hfin hxL hne
        go_wp2_with fail
        go_round
        case rel => exact ⟨k + 1, by omega, by go_num, _, rfl, HF.out.symm⟩
        case measure => simp [intOf]; omega
    · have hkl : l.take k = l := List.take_of_length_le (by omega)
      have HFI := Lib.hid (by rw [hacc, hkl] : acc = strOf (jcL l)); clear hkl hacc
      go_wp2_with fail
      go_ret
      exact ⟨by rw [← HFI.out]; rfl, rfl⟩
end Go.Proofs.Ytcgomfbbbnfmnaa
