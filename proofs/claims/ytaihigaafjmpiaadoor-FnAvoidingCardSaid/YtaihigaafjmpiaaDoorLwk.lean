/- All words of at most n of the first k letters, as the reference makes them (spec.l17Words, spec.MakeAll). No condition but k ≤ 4, n ≤ 6 and at most 400 words. -/
import Derived.Test.YtaihigaafjmpiaaDoorAbc
import Derived.Test.YtaihigaafjmpiaaDoorApp4
import Derived.Test.YtaihigaafjmpiaaDoorStr
namespace Go.Proofs.YtaihigaafjmpiaaDoor
open Go.RowKit
set_option linter.unusedVariables false

/-- Words and each of k letters behind them. -/
def sprK (l : List ByteArray) (k : Nat) : List ByteArray := l.flatMap fun v => (List.range k).map fun i => v ++ strOf [ltr i]
/-- All words of n of the first k letters. -/
def layK (k : Nat) : Nat → List ByteArray
  | 0 => [strOf []]
  | n + 1 => sprK (layK k n) k
/-- All words of at most n of the first k letters. -/
def laysK (k : Nat) : Nat → List ByteArray
  | 0 => layK k 0
  | n + 1 => laysK k n ++ layK k (n + 1)
theorem flat_takeK {α β : Type} (l : List α) (f : α → List β) {k : Nat} {x : α} (h : l[k]? = some x) : (l.take (k + 1)).flatMap f = (l.take k).flatMap f ++ f x := by
  rw [List.take_add_one, h, List.flatMap_append]; simp
theorem range_mapK {β : Type} (f : Nat → β) (k : Nat) : (List.range (k + 1)).map f = (List.range k).map f ++ [f k] := by
  rw [List.range_succ, List.map_append]; rfl
theorem sprK_len (l : List ByteArray) (k : Nat) : (sprK l k).length = l.length * k := by
  induction l with
  | nil => simp [sprK]
  | cons x l ih => rw [sprK, List.flatMap_cons, List.length_append, List.length_map, List.length_range, ← sprK, ih, List.length_cons, Nat.succ_mul]; omega
theorem layK_len (k : Nat) : ∀ n, (layK k n).length = k ^ n
  | 0 => rfl
  | n + 1 => by rw [layK, sprK_len, layK_len k n, Nat.pow_succ]
theorem layK_size (k : Nat) : ∀ n x, x ∈ layK k n → x.size = n
  | 0, x, h => by rw [layK, List.mem_singleton] at h; subst h; rfl
  | n + 1, x, h => by
    rw [layK, sprK, List.mem_flatMap] at h
    obtain ⟨v, hv, h2⟩ := h
    obtain ⟨i, _, rfl⟩ := List.mem_map.1 h2
    rw [ByteArray.size_append, layK_size k n v hv, strOf_size]; rfl
/-- Words of n of the first k letters, in other words. -/
theorem layK_mem (k : Nat) (hk : k ≤ 4) : ∀ n x, x ∈ layK k n ↔ x.size = n ∧ ∀ d ∈ L x, 97 ≤ d.toNat ∧ d.toNat < 97 + k
  | 0, x => by
    rw [layK, List.mem_singleton]
    constructor
    · rintro rfl; exact ⟨rfl, fun d hd => by simp [L, strOf] at hd⟩
    · rintro ⟨h, _⟩
      refine bytes_ext ?_
      show L x = L (strOf [])
      rw [strOf_L]
      exact List.eq_nil_of_length_eq_zero (by rw [L_len]; exact h)
  | n + 1, x => by
    have hlt : ∀ i, i < k → (ltr i).toNat = 97 + i := fun i hi => by
      unfold ltr
      rw [UInt8.toNat_ofNat']
      omega
    rw [layK, sprK, List.mem_flatMap]
    constructor
    · rintro ⟨v, hv, h2⟩
      obtain ⟨i, hi, rfl⟩ := List.mem_map.1 h2
      rw [List.mem_range] at hi
      obtain ⟨h3, h4⟩ := (layK_mem k hk n v).1 hv
      refine ⟨by rw [ByteArray.size_append, h3, strOf_size]; rfl, fun d hd => ?_⟩
      rw [show L (v ++ strOf [ltr i]) = L v ++ [ltr i] by simp [L, strOf, ByteArray.data_append]] at hd
      rcases List.mem_append.1 hd with hd | hd
      · exact h4 d hd
      · rw [List.mem_singleton] at hd; subst hd; have := hlt i hi; omega
    · rintro ⟨h1, h2⟩
      have hne : L x ≠ [] := by intro e; have := congrArg List.length e; rw [L_len, List.length_nil] at this; omega
      obtain ⟨v, d, hvd⟩ : ∃ v d, L x = v ++ [d] := ⟨(L x).dropLast, (L x).getLast hne, (List.dropLast_concat_getLast hne).symm⟩
      have hd := h2 d (by rw [hvd]; simp)
      have hlen : v.length = n := by
        have := congrArg List.length hvd
        rw [L_len, List.length_append] at this
        simp at this; omega
      refine ⟨strOf v, (layK_mem k hk n (strOf v)).2 ⟨by rw [strOf_size]; exact hlen, fun e he => ?_⟩, ?_⟩
      · rw [strOf_L] at he
        exact h2 e (by rw [hvd]; exact List.mem_append_left _ he)
      · refine List.mem_map.2 ⟨d.toNat - 97, by rw [List.mem_range]; omega, ?_⟩
        have he : ltr (d.toNat - 97) = d := UInt8.toNat_inj.1 (by have h97 := hd.1; have hdk := hd.2; rw [hlt _ (by omega)]; omega)
        rw [he]
        exact bytes_ext (by show L (strOf v ++ strOf [d]) = L x; rw [hvd]; simp [L, strOf, ByteArray.data_append])
theorem laysK_mono (k : Nat) : ∀ n q, q ≤ n → (laysK k q).length ≤ (laysK k n).length
  | 0, q, h => by rw [show q = 0 by omega]; exact Nat.le_refl _
  | n + 1, q, h => by
    by_cases e : q = n + 1
    · subst e; exact Nat.le_refl _
    · have := laysK_mono k n q (by omega)
      rw [laysK, List.length_append]; omega
theorem laysK_filter (k : Nat) (n : Nat) : ∀ m, n ≤ m → (laysK k m).filter (fun x => decide (x.size = n)) = layK k n
  | 0, h => by
    have : n = 0 := by omega
    subst this; rfl
  | m + 1, h => by
    rw [laysK, List.filter_append]
    by_cases e : n = m + 1
    · subst e
      have h1 : (laysK k m).filter (fun x => decide (x.size = m + 1)) = [] := by
        rw [List.filter_eq_nil_iff]
        have : ∀ q, ∀ x ∈ laysK k q, x.size ≤ q := fun q => by
          induction q with
          | zero => intro x hx; have := layK_size k 0 x hx; omega
          | succ q ih =>
            intro x hx
            rw [laysK] at hx
            rcases List.mem_append.1 hx with hx | hx
            · have := ih x hx; omega
            · have := layK_size k _ x hx; omega
        intro x hx
        have := this m x hx
        simp; omega
      rw [h1, List.nil_append, List.filter_eq_self.2]
      intro x hx
      exact decide_eq_true (layK_size k _ x hx)
    · rw [laysK_filter k n m (by omega)]
      have h1 : (layK k (m + 1)).filter (fun x => decide (x.size = n)) = [] := by
        rw [List.filter_eq_nil_iff]
        intro x hx
        have := layK_size k _ x hx
        simp; omega
      rw [h1, List.append_nil]
theorem laysK_size (k : Nat) : ∀ q, ∀ x ∈ laysK k q, x.size ≤ q
  | 0, x, hx => by have := layK_size k 0 x hx; omega
  | q + 1, x, hx => by
    rw [laysK] at hx
    rcases List.mem_append.1 hx with hx | hx
    · have := laysK_size k q x hx; omega
    · have := layK_size k _ x hx; omega
/-- Where the words of n letters begin. -/
def offsK (k : Nat) : Nat → Nat
  | 0 => 0
  | n + 1 => (laysK k n).length
theorem offsK_len (k : Nat) : ∀ n, offsK k n + (layK k n).length = (laysK k n).length
  | 0 => by rw [offsK, laysK, Nat.zero_add]
  | n + 1 => by rw [offsK, laysK, List.length_append]
theorem laysK_at (k : Nat) : ∀ (n p : Nat), (laysK k n)[offsK k n + p]? = (layK k n)[p]?
  | 0, p => by rw [offsK, laysK, Nat.zero_add]
  | n + 1, p => by rw [offsK, laysK, List.getElem?_append_right (by omega)]; congr 1; omega
/-- What stands behind the words of at most n letters. -/
def midK (k n p j : Nat) (x : ByteArray) : List ByteArray := laysK k n ++ (sprK ((layK k n).take p) k ++ (List.range j).map fun i => x ++ strOf [ltr i])
theorem midK_succ (k n p j : Nat) (x : ByteArray) : midK k n p (j + 1) x = midK k n p j x ++ [x ++ strOf [ltr j]] := by
  rw [midK, midK, range_mapK]; simp only [List.append_assoc]
theorem midK_next {k n p : Nat} {x : ByteArray} (y : ByteArray) (h : (layK k n)[p]? = some x) : midK k n (p + 1) 0 y = midK k n p k x := by
  rw [midK, midK, sprK, flat_takeK _ _ h, ← sprK]; simp
theorem midK_len (k n p j : Nat) (x : ByteArray) (hp : p ≤ (layK k n).length) : (midK k n p j x).length = (laysK k n).length + (p * k + j) := by
  rw [midK, List.length_append, List.length_append, sprK_len, List.length_take, Nat.min_eq_left hp, List.length_map, List.length_range]
theorem midK_zero (k n : Nat) (x : ByteArray) : midK k n 0 0 x = laysK k n := by simp [midK, sprK]
theorem midK_end (k n : Nat) (x : ByteArray) : midK k n (layK k n).length 0 x = laysK k (n + 1) := by simp [midK, laysK, layK]
set_option maxRecDepth 4000 in
set_option maxHeartbeats 1000000 in
theorem l17Words_k (k n : Nat) (hk1 : 1 ≤ k) (hk4 : k ≤ 4) (hn : n ≤ 6) (hlen : (laysK k n).length ≤ 400) (w : World) :
    Calls Tryd.prog 23 #[.int .i64 k, .int .i64 n] w fun e w' => ∃ g c, e = .returned (.slice (some ⟨g, 0, none⟩) (laysK k n).length c) ∧ Own w' w.heap.size 9 (.slice (some ⟨g, 0, none⟩) (laysK k n).length c) ((laysK k n).map Value.string) ∧ Below w.heap.size w w' := by
  go_enter Tryd.func23, Tryd.ntmps23
  go_wp2_with fail
  go_loopw [5, 6, 7, 8, 10, 11] (fun v f i _ _ _ wr => ∃ q g c m : Nat, q ≤ n ∧ i = .int .i64 q ∧ f = .int .i64 (offsK k q) ∧ (laysK k q).length = m ∧ v = .slice (some ⟨g, 0, none⟩) m c ∧ Own wr w.heap.size 9 (.slice (some ⟨g, 0, none⟩) m c) ((laysK k q).map Value.string) ∧ Below w.heap.size w wr) (fun _ _ i _ _ _ _ => n - (intOf i).toNat)
  case atStart => exact ⟨0, w.heap.size, 1, 1, by omega, rfl, rfl, rfl, rfl, Own.one (Nat.le_refl _), (Below.refl _ _).alloc (Nat.le_refl _) _⟩
  case round =>
    obtain ⟨q, g, c, m, hq, rfl, rfl, hm, rfl, hown, hbel⟩ := hrel
    have HO := Lib.hid hown; have HM := Lib.hid hm; clear hown
    have hm4 := laysK_mono k n q hq
    rw [hm] at hm4; clear hm
    by_cases hlt : q < n
    · have hof := offsK_len k q
      rw [HM.out] at hof
      obtain ⟨o, ho⟩ : ∃ o, offsK k q = o := ⟨_, rfl⟩
      obtain ⟨y, hy⟩ : ∃ y, (layK k q).length = y := ⟨_, rfl⟩
      rw [ho, hy] at hof
      have hst := HO.out.str HM.out
      have hy1 : 0 < (layK k q).length := by rw [layK_len]; exact Nat.pow_pos (by omega)
      rw [hy] at hy1
      have hyk : m + y * k ≤ 400 := by
        have h1 := laysK_mono k n (q + 1) (by omega)
        rw [laysK, List.length_append, layK, sprK_len, hy, HM.out] at h1
        omega
      have HST := Lib.hid hst; have HOQ := Lib.hid ho; have HY := Lib.hid hy
      rw [ho]
      have hcm : m ≤ c := by have := hst.1; rw [HM.out] at this; exact this
      have hco : ¬ c = o := by omega
      clear hst ho hy
      go_wp2_with fail
      go_loopw [5, 10, 11, 25] (fun v _ _ i w2 => ∃ p g2 c2 m2 : Nat, ∃ x0 : ByteArray, p ≤ y ∧ i = .int .i64 p ∧ m + p * k ≤ m2 ∧ m2 ≤ m + p * k ∧ v = .slice (some ⟨g2, 0, none⟩) m2 c2 ∧ Own w2 w.heap.size 9 (.slice (some ⟨g2, 0, none⟩) m2 c2) ((midK k q p 0 x0).map Value.string) ∧ StrAt w2 g c (laysK k q) ∧ Below w.heap.size w w2) (fun _ _ _ i _ => y - (intOf i).toNat)
      case atStart => exact ⟨0, g, c, m, strOf [], by omega, rfl, by omega, by omega, rfl, by rw [midK_zero]; exact HO.out, HST.out, hbel⟩
      case round =>
        obtain ⟨p, g2, c2, m2, x0, hp, rfl, hm2, hm2', rfl, hown2, hst2, hbel2⟩ := hrel
        have HO2 := Lib.hid hown2; have HST2 := Lib.hid hst2; clear hown2 hst2
        have hpk : p * k ≤ y * k := Nat.mul_le_mul_right k hp
        have hpk1 : (p + 1) * k = p * k + k := Nat.succ_mul p k
        have HPK1 := Lib.hid hpk1; clear hpk1
        by_cases hplt : p < y
        · obtain ⟨x, hx⟩ := some_of_lt (l := layK k q) (k := p) (by rw [HY.out]; exact hplt)
          have hc := HST2.out.2.2.2 (o + p) x (by rw [← HOQ.out, laysK_at]; exact hx)
          have hxz := layK_size k q x (List.mem_of_getElem? hx)
          have hml : ∀ j, (midK k q p j x).length = m2 + j := fun j => by rw [midK_len k q p j x (by rw [HY.out]; omega), HM.out]; omega
          have hm0 : midK k q p 0 x = midK k q p 0 x0 := by simp [midK]
          have hnx := midK_next (strOf []) hx
          have hab := fun j (h : j < 4) => abc_at j h
          have hpd : p < m - o := by omega
          have HML := Lib.hid hml; have HM0 := Lib.hid hm0; have HNX := Lib.hid hnx; have HAB := Lib.hid hab
          clear hx hml hm0 hnx hab
          go_wp2_with fail
          go_loopw [5, 11] (fun v i w3 => ∃ j g3 c3 : Nat, j ≤ k ∧ i = .int .i64 j ∧ v = .slice (some ⟨g3, 0, none⟩) (m2 + j) c3 ∧ Own w3 w.heap.size 9 (.slice (some ⟨g3, 0, none⟩) (m2 + j) c3) ((midK k q p j x).map Value.string) ∧ StrAt w3 g c (laysK k q) ∧ Below w.heap.size w w3) (fun _ i _ => k - (intOf i).toNat)
          case atStart => exact ⟨0, g2, c2, by omega, rfl, rfl, by rw [HM0.out]; exact HO2.out, HST2.out, hbel2⟩
          case round =>
            obtain ⟨j, g3, c3, hj, rfl, rfl, hown3, hst3, hbel3⟩ := hrel
            have HO3 := Lib.hid hown3; have HST3 := Lib.hid hst3; clear hown3 hst3
            by_cases hjlt : j < k
            · have hab := HAB.out j (by omega)
              have hsz := hbel3.size
              have hl3 : ((midK k q p j x).map Value.string).length = m2 + j := by rw [List.length_map]; exact HML.out j
              have HL3 := Lib.hid hl3
              have hm9 : m2 + j < 4294967296 := by omega
              have hj4 : (j : Int) < (k : Int) := by omega
              have hsd : (strOf [ltr j]).size = 1 := rfl
              have hj5 : (j : Int) + 1 ≤ 4 := by omega
              clear hl3
              go_wp2_with (at_builtin; refine wp_append4 rfl (.tmp 34) (.tmp 41) 23 rfl _ 16 Tryd.underlying23 info_string rfl (m2 + j) c3 rfl HO3.out _ rfl rfl HL3.out hm9 (by decide) hsz ?_)
              intro g4 c4 w4 ha4
              have hown4 := ha4.own
              rw [show (midK k q p j x).map Value.string ++ [Value.string (x ++ strOf [ltr j])] = (midK k q p (j + 1) x).map Value.string from by rw [midK_succ, List.map_append]; rfl] at hown4
              have hst4 := ha4.kept.str ha4.size HST3.out (.inr (by rw [HM.out]; omega))
              have HO4 := Lib.hid hown4; have HST4 := Lib.hid hst4
              have hbel4 := hbel3.trans ha4.bel
              clear ha4 hown4 hst4
              go_wp2_with fail
              go_roundw
              case rel => exact ⟨j + 1, g4, c4, by omega, by go_num, by rw [Nat.add_assoc], by rw [← Nat.add_assoc]; exact HO4.out, HST4.out, hbel4⟩
              case measure => simp [intOf]; omega
            · have hj4 : k = j := by omega
              subst hj4
              go_wp2_with fail
              go_roundw
              case rel => exact ⟨p + 1, g3, c3, m2 + k, strOf [], by omega, by go_num, by have := HPK1.out; omega, by have := HPK1.out; omega, rfl, by rw [HNX.out]; exact HO3.out, HST3.out, hbel3⟩
              case measure => simp [intOf]; omega
        · have hpy : p = y := by omega
          have hfin : midK k q p 0 x0 = laysK k (q + 1) := by rw [hpy, ← HY.out]; exact midK_end k q x0
          have hl1 : (laysK k (q + 1)).length = m2 := by rw [← hfin, midK_len k q p 0 x0 (by rw [HY.out]; omega), HM.out]; omega
          rw [hfin] at HO2
          have HL1 := Lib.hid hl1
          clear hfin hl1
          go_wp2_with fail
          go_roundw
          case rel => exact ⟨q + 1, g2, c2, m2, by omega, by go_num, by rw [offsK, HM.out], HL1.out, rfl, HO2.out, hbel2⟩
          case measure => simp [intOf]; omega
    · have hqn : q = n := by omega
      subst hqn
      go_wp2_with fail
      go_ret
      exact ⟨g, c, by rw [HM.out]; rfl, by rw [HM.out]; exact HO.out, hbel⟩
theorem makeAll_k (k n : Nat) (hk1 : 1 ≤ k) (hk4 : k ≤ 4) (hn : n ≤ 6) (hlen : (laysK k n).length ≤ 400) (w : World) :
    Calls Tryd.prog 6 #[.int .i64 k, .int .i64 n] w fun e w' => ∃ g c, e = .returned (.slice (some ⟨g, 0, none⟩) (laysK k n).length c) ∧ Own w' w.heap.size 9 (.slice (some ⟨g, 0, none⟩) (laysK k n).length c) ((laysK k n).map Value.string) ∧ Below w.heap.size w w' := by
  have hw := l17Words_k k n hk1 hk4 hn hlen w
  obtain ⟨z, hz⟩ : ∃ z, (laysK k n).length = z := ⟨_, rfl⟩
  rw [hz] at hw ⊢
  have HW := Lib.hid hw
  clear hw hz hlen
  go_enter Tryd.func6, Tryd.ntmps6
  go_wp2_with fail
  refine HW.out.mono ?_
  rintro e w1 ⟨g, c, rfl, o, b⟩
  have HO := Lib.hid o; clear o
  go_wp2_with fail
  go_ret
  exact ⟨g, c, rfl, HO.out, b⟩
end Go.Proofs.YtaihigaafjmpiaaDoor
