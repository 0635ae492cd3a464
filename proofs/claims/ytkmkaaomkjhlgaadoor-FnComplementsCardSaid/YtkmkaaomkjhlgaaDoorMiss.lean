/- MissedBy, both: the numbers from 1 on that a list does not hold. -/
import Derived.Test.YtkmkaaomkjhlgaaDoorHelp
import Derived.Test.YtkmkaaomkjhlgaaDoorNum
namespace Go.Proofs.YtkmkaaomkjhlgaaDoor
open Go.RowKit
set_option linter.unusedVariables false

/-- Where an int stands in a list; -1: nowhere. -/
def ixOf (x : Int) : List Int → Nat → Int
  | [], _ => -1
  | y :: l, k => if x = y then (k : Int) else ixOf x l (k + 1)
theorem ixOf_iff (x : Int) : ∀ (l : List Int) (k : Nat), 0 ≤ ixOf x l k ↔ x ∈ l
  | [], k => by simp [ixOf]
  | y :: l, k => by
    by_cases h : x = y
    · simp [ixOf, h]
    · rw [ixOf, if_neg h, ixOf_iff x l (k + 1)]; simp [h]
theorem ixOf_mem (x : Int) (l : List Int) (k : Nat) : decide (0 ≤ ixOf x l k) = decide (x ∈ l) := by
  rw [decide_eq_decide]; exact ixOf_iff x l k
theorem ixOf_bd (x : Int) : ∀ (l : List Int) (k : Nat), -1 ≤ ixOf x l k ∧ ixOf x l k < (k : Int) + l.length + 1
  | [], k => by simp [ixOf]; omega
  | y :: l, k => by
    simp only [ixOf]
    have := ixOf_bd x l (k + 1)
    split <;> simp <;> omega
set_option maxHeartbeats 400000 in
theorem indexInt_any (zs : List Int) (x : Int) (A : Option Addr) (c B : Nat) (w : World) (hn : zs.length ≤ 4294967296) (hrd : Rds w B A (zs.map (Value.int .i64))) :
    Calls Tryd.prog 50 #[.slice A zs.length c, .int .i64 x] w fun e w' => e = .returned (.int .i64 (ixOf x zs 0)) ∧ w = w' := by
  have HR := Lib.hid hrd; clear hrd
  go_enter Tryd.func50, Tryd.ntmps50
  go_wp2_with fail
  go_loop [5, 8] (fun _ i => ∃ k : Nat, k ≤ zs.length ∧ i = .int .i64 k ∧ ixOf x (zs.drop k) k = ixOf x zs 0) (fun _ i => zs.length - (intOf i).toNat)
  case atStart => exact ⟨0, by omega, rfl, rfl⟩
  case round =>
    obtain ⟨k, hk, rfl, hg⟩ := hrel
    have HG := Lib.hid hg; clear hg
    by_cases hlt : k < zs.length
    · obtain ⟨z, hz⟩ := some_of_lt (l := zs) (k := k) hlt
      obtain ⟨ad, rfl, hc⟩ := HR.out.at_ (map_at (Value.int .i64) hz)
      have HD := Lib.hid (drop_at_list hz); clear hz
      by_cases hx : x = z
      · subst hx
        go_wp2_with fail
        go_ret
        exact ⟨ret_int (by rw [← HG.out, HD.out, ixOf, if_pos rfl]), rfl⟩
      · have hb : (x == z) = false := by simpa using hx
        have HX := Lib.hid hx; clear hx
        go_wp2_with fail
        go_round
        case rel => exact ⟨k + 1, by omega, by go_num, by rw [← HG.out, HD.out, ixOf, if_neg HX.out]⟩
        case measure => simp [intOf]; omega
    · have h0 : zs.drop k = [] := List.drop_eq_nil_of_le (by omega)
      have H0 := Lib.hid h0; clear h0
      go_wp2_with fail
      go_ret
      exact ⟨ret_int (by rw [← HG.out, H0.out]; rfl), rfl⟩
set_option maxHeartbeats 400000 in
theorem containsInt_any (zs : List Int) (x : Int) (A : Option Addr) (c B : Nat) (w : World) (hn : zs.length ≤ 4294967296) (hrd : Rds w B A (zs.map (Value.int .i64))) :
    Calls Tryd.prog 39 #[.slice A zs.length c, .int .i64 x] w fun e w' => e = .returned (.bool (decide (x ∈ zs))) ∧ w = w' := by
  have hbd := ixOf_bd x zs 0
  obtain ⟨hb1, hb2⟩ := hbd
  have HM := Lib.hid (ixOf_mem x zs 0)
  go_enter Tryd.func39, Tryd.ntmps39
  go_wp2_with (go_at_call 50; refine (indexInt_any zs x A c B _ hn hrd).mono ?_; rintro e w' ⟨rfl, rfl⟩)
  all_goals go_ret
  all_goals exact ⟨ret_bool (by rw [← HM.out]), rfl⟩
theorem containsInt_is (zs : List Int) (x : Int) (b : Bool) (hb : decide (x ∈ zs) = b) (A : Option Addr) (c B : Nat) (w : World) (hn : zs.length ≤ 4294967296) (hrd : Rds w B A (zs.map (Value.int .i64))) :
    Calls Tryd.prog 39 #[.slice A zs.length c, .int .i64 x] w fun e w' => e = .returned (.bool b) ∧ w = w' := hb ▸ containsInt_any zs x A c B w hn hrd

/-- The numbers from 1 to n that zs does not hold. -/
def msd (zs : List Int) : Nat → List Int
  | 0 => []
  | n + 1 => if ((n : Int) + 1) ∈ zs then msd zs n else msd zs n ++ [(n : Int) + 1]
theorem msd_length (zs : List Int) : ∀ n, (msd zs n).length ≤ n
  | 0 => Nat.le_refl _
  | n + 1 => by have := msd_length zs n; simp only [msd]; split <;> simp <;> omega

set_option maxHeartbeats 400000 in
theorem iMissedBy_yes (zs : List Int) (m : Nat) (hm : m ≤ 2000) (A : Option Addr) (c : Nat) (w : World) (hn : zs.length ≤ 4294967296) (hrd : Rds w w.heap.size A (zs.map (Value.int .i64))) :
    Calls Tryd.prog 22 #[.slice A zs.length c, .int .i64 m] w fun e w' => ∃ A' c', e = .returned (.slice A' (msd zs m).length c') ∧ Own w' w.heap.size 3 (.slice A' (msd zs m).length c') ((msd zs m).map (Value.int .i64)) ∧ Below w.heap.size w w' := by
  have HR := Lib.hid hrd; clear hrd
  go_enter Tryd.func22, Tryd.ntmps22
  go_wp2_with (go_at_call 30; refine (within_yes _ _ _ ⟨by omega, by omega⟩ _).mono ?_; rintro e w' ⟨rfl, rfl⟩)
  go_loopw [5, 6] (fun v i wr => ∃ k n : Nat, ∃ A c, k ≤ m ∧ n ≤ k ∧ i = .int .i64 ((k : Int) + 1) ∧ v = .slice A n c ∧ (msd zs k).length = n ∧ Own wr w.heap.size 3 (.slice A n c) ((msd zs k).map (Value.int .i64)) ∧ Below w.heap.size w wr) (fun _ i _ => m + 1 - (intOf i).toNat)
  case atStart => exact ⟨0, 0, _, _, by omega, by omega, by go_num, rfl, rfl, Own.empty (Nat.le_refl _), (Below.refl _ _).alloc (Nat.le_refl _) _⟩
  case round =>
    obtain ⟨k, n, A', c', hk, hnk, rfl, rfl, hln, hown, hbel⟩ := hrel
    have HL := Lib.hid hln; clear hln
    have HO := Lib.hid hown; clear hown
    by_cases hlt : k < m
    · have hrd := HR.out.below hbel (Nat.le_refl _)
      have HR2 := Lib.hid hrd; clear hrd
      by_cases hmem : ((k : Int) + 1) ∈ zs
      · have hb := decide_eq_true hmem
        have HB := Lib.hid hb; clear hb
        have HM := Lib.hid hmem; clear hmem
        go_wp2_with (go_at_call 39; refine (containsInt_is zs _ true HB.out A c _ _ hn HR2.out).mono ?_; rintro e w' ⟨rfl, rfl⟩)
        go_roundw
        case rel => exact ⟨k + 1, n, A', c', by omega, by omega, by go_num, rfl, by rw [msd, if_pos HM.out]; exact HL.out, by rw [msd, if_pos HM.out]; exact HO.out, hbel⟩
        case measure => simp [intOf]; omega
      · have hb := decide_eq_false hmem
        have HB := Lib.hid hb; clear hb
        have HM := Lib.hid hmem; clear hmem
        go_wp2_with (first
          | (go_at_call 39; refine (containsInt_is zs _ false HB.out A c _ _ hn HR2.out).mono ?_; rintro e w' ⟨rfl, rfl⟩)
          | (at_builtin; refine wp_append1 rfl (.tmp 20) (.tmp 22) 45 rfl _ 8 Tryd.underlying45 info_int rfl rfl HO.out _ rfl rfl n ?n1 ?n2 ?n3 ?n4 ?_))
        case n1 => rw [List.length_map]; exact HL.out
        case n2 => omega
        case n3 => decide
        case n4 => exact hbel.size
        intro A2 c2 w1 hown1 hbel1 hsz1
        have hms : msd zs (k + 1) = msd zs k ++ [(k : Int) + 1] := by rw [msd, if_neg HM.out]
        rw [show (msd zs k).map (Value.int .i64) ++ [Value.int .i64 ((k : Int) + 1)] = (msd zs (k + 1)).map (Value.int .i64) from by rw [hms, List.map_append]; rfl] at hown1
        have hl2 : (msd zs (k + 1)).length = n + 1 := by rw [hms, List.length_append, HL.out]; rfl
        have HO1 := Lib.hid hown1; clear hown1 hms
        have HL2 := Lib.hid hl2; clear hl2
        go_wp2_with fail
        go_roundw
        case rel => exact ⟨k + 1, n + 1, A2, c2, by omega, by omega, by go_num, rfl, HL2.out, HO1.out, hbel.trans hbel1⟩
        case measure => simp [intOf]; omega
    · have hkn : k = m := by omega
      subst hkn
      go_wp2_with fail
      go_ret
      have hl := HL.out
      exact ⟨A', c', by rw [hl]; rfl, by rw [hl]; exact HO.out, hbel⟩
set_option maxHeartbeats 400000 in
theorem iMissedBy_no (m : Int) (h : ¬ (0 ≤ m ∧ m ≤ 2000)) (A : Option Addr) (n c : Nat) (w : World) :
    Calls Tryd.prog 22 #[.slice A n c, .int .i64 m] w fun e w' => e = .returned (.slice none 0 0) ∧ w = w' := by
  have H := Lib.hid h; clear h
  go_enter Tryd.func22, Tryd.ntmps22
  go_wp2_with (go_at_call 30; refine (within_no _ _ _ H.out _).mono ?_; rintro e w' ⟨rfl, rfl⟩)
  go_ret
  exact ⟨rfl, rfl⟩
/-- What MissedBy returns. -/
def msdL (zs : List Int) (m : Int) : List Int := if 0 ≤ m ∧ m ≤ 2000 then msd zs m.toNat else []
theorem msdL_length (zs : List Int) (m : Int) : (msdL zs m).length ≤ 2000 := by
  unfold msdL
  split
  · have := msd_length zs m.toNat; omega
  · simp
theorem iMissedBy_any (zs : List Int) (m : Int) (A : Option Addr) (c : Nat) (w : World) (hn : zs.length ≤ 4294967296) (hrd : Rds w w.heap.size A (zs.map (Value.int .i64))) :
    Calls Tryd.prog 22 #[.slice A zs.length c, .int .i64 m] w fun e w' => ∃ A' c', e = .returned (.slice A' (msdL zs m).length c') ∧ Own w' w.heap.size 3 (.slice A' (msdL zs m).length c') ((msdL zs m).map (Value.int .i64)) ∧ Below w.heap.size w w' := by
  by_cases h : 0 ≤ m ∧ m ≤ 2000
  · rw [show msdL zs m = msd zs m.toNat from if_pos h]
    obtain ⟨k, rfl⟩ := Int.eq_ofNat_of_zero_le h.1
    exact iMissedBy_yes zs k (by omega) A c w hn hrd
  · rw [show msdL zs m = [] from if_neg h]
    exact (iMissedBy_no m h A _ c w).mono fun e w' ⟨he, hw⟩ => ⟨none, 0, he, Own.nil, hw ▸ Below.refl _ _⟩
end Go.Proofs.YtkmkaaomkjhlgaaDoor
