/- All words of at most n letters, as the reference makes them. No condition but n ≤ 4. -/
import Derived.Test.YtaihigaafjmpiaaDoorLbp
import Derived.Test.YtaihigaafjmpiaaDoorApp4
namespace Go.Proofs.YtaihigaafjmpiaaDoor
open Go.RowKit
set_option linter.unusedVariables false

theorem lays_len : ∀ n, n ≤ 4 → (lays n).length ≤ 341
  | 0, _ => by decide
  | 1, _ => by decide
  | 2, _ => by rw [lays, List.length_append, lays, List.length_append, lays, lay_len, lay_len, lay_len]; decide
  | 3, _ => by rw [lays, List.length_append, lays, List.length_append, lays, List.length_append, lays, lay_len, lay_len, lay_len, lay_len]; decide
  | 4, _ => by rw [lays, List.length_append, lays, List.length_append, lays, List.length_append, lays, List.length_append, lays, lay_len, lay_len, lay_len, lay_len, lay_len]; decide
/-- Where the words of n letters begin. -/
def offs : Nat → Nat
  | 0 => 0
  | n + 1 => (lays n).length
theorem offs_len : ∀ n, offs n + (lay n).length = (lays n).length
  | 0 => by rw [offs, lays, Nat.zero_add]
  | n + 1 => by rw [offs, lays, List.length_append]
theorem lays_at : ∀ (n p : Nat), (lays n)[offs n + p]? = (lay n)[p]?
  | 0, p => by rw [offs, lays, Nat.zero_add]
  | n + 1, p => by rw [offs, lays, List.getElem?_append_right (by omega)]; congr 1; omega
/-- What stands behind the words of at most n letters. -/
def mid (n p j : Nat) (x : ByteArray) : List ByteArray := lays n ++ (spr ((lay n).take p) 4 ++ (List.range j).map fun i => x ++ strOf [ltr i])
theorem mid_succ (n p j : Nat) (x : ByteArray) : mid n p (j + 1) x = mid n p j x ++ [x ++ strOf [ltr j]] := by
  rw [mid, mid, range_map]; simp only [List.append_assoc]
theorem mid_next {n p : Nat} {x : ByteArray} (y : ByteArray) (h : (lay n)[p]? = some x) : mid n (p + 1) 0 y = mid n p 4 x := by
  rw [mid, mid, spr, flat_take _ _ h, ← spr]; simp
theorem mid_len (n p j : Nat) (x : ByteArray) (hp : p ≤ (lay n).length) : (mid n p j x).length = (lays n).length + (p * 4 + j) := by
  rw [mid, List.length_append, List.length_append, spr_len, List.length_take, Nat.min_eq_left hp, List.length_map, List.length_range]
theorem mid_zero (n : Nat) (x : ByteArray) : mid n 0 0 x = lays n := by simp [mid, spr]
theorem mid_end (n : Nat) (x : ByteArray) : mid n (lay n).length 0 x = lays (n + 1) := by simp [mid, lays, lay]
set_option maxRecDepth 4000 in
set_option maxHeartbeats 1000000 in
theorem l17Words_any (n : Nat) (hn : n ≤ 4) (w : World) :
    Calls Tryd.prog 23 #[.int .i64 4, .int .i64 n] w fun e w' => ∃ g c, e = .returned (.slice (some ⟨g, 0, none⟩) (lays n).length c) ∧ Own w' w.heap.size 9 (.slice (some ⟨g, 0, none⟩) (lays n).length c) ((lays n).map Value.string) ∧ Below w.heap.size w w' := by
  go_enter Tryd.func23, Tryd.ntmps23
  go_wp2_with fail
  go_loopw [5, 6, 7, 8, 10, 11] (fun v f i _ _ _ wr => ∃ q g c m : Nat, q ≤ n ∧ i = .int .i64 q ∧ f = .int .i64 (offs q) ∧ (lays q).length = m ∧ v = .slice (some ⟨g, 0, none⟩) m c ∧ Own wr w.heap.size 9 (.slice (some ⟨g, 0, none⟩) m c) ((lays q).map Value.string) ∧ Below w.heap.size w wr) (fun _ _ i _ _ _ _ => n - (intOf i).toNat)
  case atStart => exact ⟨0, w.heap.size, 1, 1, by omega, rfl, rfl, rfl, rfl, Own.one (Nat.le_refl _), (Below.refl _ _).alloc (Nat.le_refl _) _⟩
  case round =>
    obtain ⟨q, g, c, m, hq, rfl, rfl, hm, rfl, hown, hbel⟩ := hrel
    have HO := Lib.hid hown; have HM := Lib.hid hm; clear hown
    have hm4 := lays_len q (by omega)
    rw [hm] at hm4; clear hm
    by_cases hlt : q < n
    · have hof := offs_len q
      rw [HM.out] at hof
      obtain ⟨o, ho⟩ : ∃ o, offs q = o := ⟨_, rfl⟩
      obtain ⟨y, hy⟩ : ∃ y, (lay q).length = y := ⟨_, rfl⟩
      rw [ho, hy] at hof
      have hst := HO.out.str HM.out
      have hy1 : 0 < (lay q).length := by rw [lay_len]; exact Nat.pow_pos (by decide)
      rw [hy] at hy1
      have HST := Lib.hid hst; have HOQ := Lib.hid ho; have HY := Lib.hid hy
      rw [ho]
      have hcm : m ≤ c := by have := hst.1; rw [HM.out] at this; exact this
      have hco : ¬ c = o := by omega
      clear hst ho hy
      go_wp2_with fail
      go_loopw [5, 10, 11, 25] (fun v _ _ i w2 => ∃ p g2 c2 m2 : Nat, ∃ x0 : ByteArray, p ≤ y ∧ i = .int .i64 p ∧ m + p * 4 ≤ m2 ∧ m2 ≤ m + p * 4 ∧ v = .slice (some ⟨g2, 0, none⟩) m2 c2 ∧ Own w2 w.heap.size 9 (.slice (some ⟨g2, 0, none⟩) m2 c2) ((mid q p 0 x0).map Value.string) ∧ StrAt w2 g c (lays q) ∧ Below w.heap.size w w2) (fun _ _ _ i _ => y - (intOf i).toNat)
      case atStart => exact ⟨0, g, c, m, strOf [], by omega, rfl, by omega, by omega, rfl, by rw [mid_zero]; exact HO.out, HST.out, hbel⟩
      case round =>
        obtain ⟨p, g2, c2, m2, x0, hp, rfl, hm2, hm2', rfl, hown2, hst2, hbel2⟩ := hrel
        have HO2 := Lib.hid hown2; have HST2 := Lib.hid hst2; clear hown2 hst2
        by_cases hplt : p < y
        · obtain ⟨x, hx⟩ := some_of_lt (l := lay q) (k := p) (by rw [HY.out]; exact hplt)
          have hc := HST2.out.2.2.2 (o + p) x (by rw [← HOQ.out, lays_at]; exact hx)
          have hxz := lay_size q x (List.mem_of_getElem? hx)
          have hml : ∀ j, (mid q p j x).length = m2 + j := fun j => by rw [mid_len q p j x (by rw [HY.out]; omega), HM.out]; omega
          have hm0 : mid q p 0 x = mid q p 0 x0 := by simp [mid]
          have hnx := mid_next (strOf []) hx
          have hab := fun j (h : j < 4) => abc_at j h
          have hpd : p < m - o := by omega
          have HML := Lib.hid hml; have HM0 := Lib.hid hm0; have HNX := Lib.hid hnx; have HAB := Lib.hid hab
          clear hx hml hm0 hnx hab
          go_wp2_with fail
          go_loopw [5, 11] (fun v i w3 => ∃ j g3 c3 : Nat, j ≤ 4 ∧ i = .int .i64 j ∧ v = .slice (some ⟨g3, 0, none⟩) (m2 + j) c3 ∧ Own w3 w.heap.size 9 (.slice (some ⟨g3, 0, none⟩) (m2 + j) c3) ((mid q p j x).map Value.string) ∧ StrAt w3 g c (lays q) ∧ Below w.heap.size w w3) (fun _ i _ => 4 - (intOf i).toNat)
          case atStart => exact ⟨0, g2, c2, by omega, rfl, rfl, by rw [HM0.out]; exact HO2.out, HST2.out, hbel2⟩
          case round =>
            obtain ⟨j, g3, c3, hj, rfl, rfl, hown3, hst3, hbel3⟩ := hrel
            have HO3 := Lib.hid hown3; have HST3 := Lib.hid hst3; clear hown3 hst3
            by_cases hjlt : j < 4
            · have hab := HAB.out j hjlt
              have hsz := hbel3.size
              have hl3 : ((mid q p j x).map Value.string).length = m2 + j := by rw [List.length_map]; exact HML.out j
              have HL3 := Lib.hid hl3
              have hm9 : m2 + j < 4294967296 := by omega
              have hj4 : (j : Int) < 4 := by omega
              have hsd : (strOf [ltr j]).size = 1 := rfl
              have hj5 : (j : Int) + 1 ≤ 4 := by omega
              clear hl3
              go_wp2_with (at_builtin; refine wp_append4 rfl (.tmp 34) (.tmp 41) 23 rfl _ 16 Tryd.underlying23 info_string rfl (m2 + j) c3 rfl HO3.out _ rfl rfl HL3.out hm9 (by decide) hsz ?_)
              intro g4 c4 w4 ha4
              have hown4 := ha4.own
              rw [show (mid q p j x).map Value.string ++ [Value.string (x ++ strOf [ltr j])] = (mid q p (j + 1) x).map Value.string from by rw [mid_succ, List.map_append]; rfl] at hown4
              have hst4 := ha4.kept.str ha4.size HST3.out (.inr (by rw [HM.out]; omega))
              have HO4 := Lib.hid hown4; have HST4 := Lib.hid hst4
              have hbel4 := hbel3.trans ha4.bel
              clear ha4 hown4 hst4
              go_wp2_with fail
              go_roundw
              case rel => exact ⟨j + 1, g4, c4, by omega, by go_num, by rw [Nat.add_assoc], by rw [← Nat.add_assoc]; exact HO4.out, HST4.out, hbel4⟩
              case measure => simp [intOf]; omega
            · have hj4 : j = 4 := by omega
              subst hj4
              go_wp2_with fail
              go_roundw
              case rel => exact ⟨p + 1, g3, c3, m2 + 4, strOf [], by omega, by go_num, by omega, by omega, rfl, by rw [HNX.out]; exact HO3.out, HST3.out, hbel3⟩
              case measure => simp [intOf]; omega
        · have hpy : p = y := by omega
          have hfin : mid q p 0 x0 = lays (q + 1) := by rw [hpy, ← HY.out]; exact mid_end q x0
          have hl1 : (lays (q + 1)).length = m2 := by rw [← hfin, mid_len q p 0 x0 (by rw [HY.out]; omega), HM.out]; omega
          rw [hfin] at HO2
          have HL1 := Lib.hid hl1
          clear hfin hl1
          go_wp2_with fail
          go_roundw
          case rel => exact ⟨q + 1, g2, c2, m2, by omega, by go_num, by rw [offs, HM.out], HL1.out, rfl, HO2.out, hbel2⟩
          case measure => simp [intOf]; omega
    · have hqn : q = n := by omega
      subst hqn
      go_wp2_with fail
      go_ret
      exact ⟨g, c, by rw [HM.out]; rfl, by rw [HM.out]; exact HO.out, hbel⟩
end Go.Proofs.YtaihigaafjmpiaaDoor
