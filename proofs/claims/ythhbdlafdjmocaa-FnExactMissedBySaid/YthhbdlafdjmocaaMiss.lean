/- MissedBy, both: the numbers from 1 on that a list does not hold. -/
import Derived.Test.YthhbdlafdjmocaaHelp
import Derived.Test.YthhbdlafdjmocaaNum
namespace Go.Proofs.Ythhbdlafdjmocaa
open Go.RowKit
set_option linter.unusedVariables false

/-- Where an int stands in a list; -1: nowhere. -/
def ixOf (x : Int) : List Int → Nat → Int
  | [], _ => -1
  | y :: l, k => if x = y then (k : Int) else ixOf x l (k + 1)
theorem ixOf_iff (x : Int) : ∀ (l : List Int) (k : Nat), 0 ≤ ixOf x l k ↔ x ∈ l
  | [], k => by simp [ixOf]
  | y :: l, k => by
    by_cases h : x = y
    · simp [ixOf, h]
    · rw [ixOf, if_neg h, ixOf_iff x l (k + 1)]; simp [h]
theorem ixOf_mem (x : Int) (l : List Int) (k : Nat) : decide (0 ≤ ixOf x l k) = decide (x ∈ l) := by
  rw [decide_eq_decide]; exact ixOf_iff x l k
theorem ixOf_bd (x : Int) : ∀ (l : List Int) (k : Nat), -1 ≤ ixOf x l k ∧ ixOf x l k < (k : Int) + l.length + 1
  | [], k => by simp [ixOf]; omega
  | y :: l, k => by
    simp only [ixOf]
    have := ixOf_bd x l (k + 1)
    split <;> simp <;> omega
set_option maxHeartbeats 400000 in
theorem indexInt_any (zs : List Int) (x : Int) (A : Option Addr) (c B : Nat) (w : World) (hn : zs.length ≤ 4294967296) (hrd : Rds w B A (zs.map (Value.int .i64))) :
    Calls Try.prog 60 #[.slice A zs.length c, .int .i64 x] w fun e w' => e = .returned (.int .i64 (ixOf x zs 0)) ∧ w = w' := by
  have HR := Lib.hid hrd; clear hrd
  go_enter Try.func60, Try.ntmps60
  go_wp2_with fail
  go_loop [5, 8] (fun _ i => ∃ k : Nat, k ≤ zs.length ∧ i = .int .i64 k ∧ ixOf x (zs.drop k) k = ixOf x zs 0) (fun _ i => zs.length - (intOf i).toNat)
  case atStart => exact ⟨0, by omega, rfl, rfl⟩
  case round =>
    obtain ⟨k, hk, rfl, hg⟩ := hrel
    have HG := Lib.hid hg; clear hg
    by_cases hlt : k < zs.length
    · obtain ⟨z, hz⟩ := some_of_lt (l := zs) (k := k) hlt
      obtain ⟨ad, rfl, hc⟩ := HR.out.at_ (map_at (Value.int .i64) hz)
      have HD := Lib.hid (drop_at_list hz); clear hz
      by_cases hx : x = z
      · subst hx
        go_wp2_with fail
        go_ret
        exact ⟨ret_int (by rw [← HG.out, HD.out, ixOf, if_pos rfl]), rfl⟩
      · have hb : (x == z) = false := by simpa using hx
        have HX := Lib.hid hx; clear hx
        go_wp2_with fail
        go_round
        case rel => exact ⟨k + 1, by omega, by go_num, by rw [← HG.out, HD.out, ixOf, if_neg HX.out]⟩
        case measure => simp [intOf]; omega
    · have h0 : zs.drop k = [] := List.drop_eq_nil_of_le (by omega)
      have H0 := Lib.hid h0; clear h0
      go_wp2_with fail
      go_ret
      exact ⟨ret_int (by rw [← HG.out, H0.out]; rfl), rfl⟩
set_option maxHeartbeats 400000 in
theorem containsInt_any (zs : List Int) (x : Int) (A : Option Addr) (c B : Nat) (w : World) (hn : zs.length ≤ 4294967296) (hrd : Rds w B A (zs.map (Value.int .i64))) :
    Calls Try.prog 57 #[.slice A zs.length c, .int .i64 x] w fun e w' => e = .returned (.bool (decide (x ∈ zs))) ∧ w = w' := by
  have hbd := ixOf_bd x zs 0
  obtain ⟨hb1, hb2⟩ := hbd
  have HM := Lib.hid (ixOf_mem x zs 0)
  go_enter Try.func57, Try.ntmps57
  go_wp2_with (go_at_call 60; refine (indexInt_any zs x A c B _ hn hrd).mono ?_; rintro e w' ⟨rfl, rfl⟩)
  all_goals go_ret
  all_goals exact ⟨ret_bool (by rw [← HM.out]), rfl⟩
theorem containsInt_is (zs : List Int) (x : Int) (b : Bool) (hb : decide (x ∈ zs) = b) (A : Option Addr) (c B : Nat) (w : World) (hn : zs.length ≤ 4294967296) (hrd : Rds w B A (zs.map (Value.int .i64))) :
    Calls Try.prog 57 #[.slice A zs.length c, .int .i64 x] w fun e w' => e = .returned (.bool b) ∧ w = w' := hb ▸ containsInt_any zs x A c B w hn hrd

/-- The numbers from 1 to n that zs does not hold. -/
def msd (zs : List Int) : Nat → List Int
  | 0 => []
  | n + 1 => if ((n : Int) + 1) ∈ zs then msd zs n else msd zs n ++ [(n : Int) + 1]
theorem msd_length (zs : List Int) : ∀ n, (msd zs n).length ≤ n
  | 0 => Nat.le_refl _
  | n + 1 => by have := msd_length zs n; simp only [msd]; split <;> simp <;> omega

set_option maxHeartbeats 400000 in
theorem iMissedBy_yes (zs : List Int) (m : Nat) (hm : m ≤ 2000) (A : Option Addr) (c : Nat) (w : World) (hn : zs.length ≤ 4294967296) (hrd : Rds w w.heap.size A (zs.map (Value.int .i64))) :
    Calls Try.prog 45 #[.slice A zs.length c, .int .i64 m] w fun e w' => ∃ A' c', e = .returned (.slice A' (msd zs m).length c') ∧ Own w' w.heap.size 3 (.slice A' (msd zs m).length c') ((msd zs m).map (Value.int .i64)) ∧ Below w.heap.size w w' := by
  have HR := Lib.hid hrd; clear hrd
  go_enter Try.func45, Try.ntmps45
  go_wp2_with (go_at_call 48; refine (within_yes _ _ _ ⟨by omega, by omega⟩ _).mono ?_; rintro e w' ⟨rfl, rfl⟩)
  go_loopw [5, 6] (fun v i wr => ∃ k n : Nat, ∃ A c, k ≤ m ∧ n ≤ k ∧ i = .int .i64 ((k : Int) + 1) ∧ v = .slice A n c ∧ (msd zs k).length = n ∧ Own wr w.heap.size 3 (.slice A n c) ((msd zs k).map (Value.int .i64)) ∧ Below w.heap.size w wr) (fun _ i _ => m + 1 - (intOf i).toNat)
  case atStart => exact ⟨0, 0, _, _, by omega, by omega, by go_num, rfl, rfl, Own.empty (Nat.le_refl _), (Below.refl _ _).alloc (Nat.le_refl _) _⟩
  case round =>
    obtain ⟨k, n, A', c', hk, hnk, rfl, rfl, hln, hown, hbel⟩ := hrel
    have HL := Lib.hid hln; clear hln
    have HO := Lib.hid hown; clear hown
    by_cases hlt : k < m
    · have hrd := HR.out.below hbel (Nat.le_refl _)
      have HR2 := Lib.hid hrd; clear hrd
      by_cases hmem : ((k : Int) + 1) ∈ zs
      · have hb := decide_eq_true hmem
        have HB := Lib.hid hb; clear hb
        have HM := Lib.hid hmem; clear hmem
        go_wp2_with (go_at_call 57; refine (containsInt_is zs _ true HB.out A c _ _ hn HR2.out).mono ?_; rintro e w' ⟨rfl, rfl⟩)
        go_roundw
        case rel => exact ⟨k + 1, n, A', c', by omega, by omega, by go_num, rfl, by rw [msd, if_pos HM.out]; exact HL.out, by rw [msd, if_pos HM.out]; exact HO.out, hbel⟩
        case measure => simp [intOf]; omega
      · have hb := decide_eq_false hmem
        have HB := Lib.hid hb; clear hb
        have HM := Lib.hid hmem; clear hmem
        go_wp2_with (first
          | (go_at_call 57; refine (containsInt_is zs _ false HB.out A c _ _ hn HR2.out).mono ?_; rintro e w' ⟨rfl, rfl⟩)
          | (at_builtin; refine wp_append1 rfl (.tmp 20) (.tmp 22) 27 rfl _ 8 Try.underlying27 info_int rfl rfl HO.out _ rfl rfl n ?n1 ?n2 ?n3 ?n4 ?_))
        case n1 => rw [List.length_map]; exact HL.out
        case n2 => omega
        case n3 => decide
        case n4 => exact hbel.size
        intro A2 c2 w1 hown1 hbel1 hsz1
        have hms : msd zs (k + 1) = msd zs k ++ [(k : Int) + 1] := by rw [msd, if_neg HM.out]
        rw [show (msd zs k).map (Value.int .i64) ++ [Value.int .i64 ((k : Int) + 1)] = (msd zs (k + 1)).map (Value.int .i64) from by rw [hms, List.map_append]; rfl] at hown1
        have hl2 : (msd zs (k + 1)).length = n + 1 := by rw [hms, List.length_append, HL.out]; rfl
        have HO1 := Lib.hid hown1; clear hown1 hms
        have HL2 := Lib.hid hl2; clear hl2
        go_wp2_with fail
        go_roundw
        case rel => exact ⟨k + 1, n + 1, A2, c2, by omega, by omega, by go_num, rfl, HL2.out, HO1.out, hbel.trans hbel1⟩
        case measure => simp [intOf]; omega
    · have hkn : k = m := by omega
      subst hkn
      go_wp2_with fail
      go_ret
      have hl := HL.out
      exact ⟨A', c', by rw [hl]; rfl, by rw [hl]; exact HO.out, hbel⟩
set_option maxHeartbeats 400000 in
theorem iMissedBy_no (m : Int) (h : ¬ (0 ≤ m ∧ m ≤ 2000)) (A : Option Addr) (n c : Nat) (w : World) :
    Calls Try.prog 45 #[.slice A n c, .int .i64 m] w fun e w' => e = .returned (.slice none 0 0) ∧ w = w' := by
  have H := Lib.hid h; clear h
  go_enter Try.func45, Try.ntmps45
  go_wp2_with (go_at_call 48; refine (within_no _ _ _ H.out _).mono ?_; rintro e w' ⟨rfl, rfl⟩)
  go_ret
  exact ⟨rfl, rfl⟩
set_option maxHeartbeats 400000 in
theorem sMissedBy_no (m : Int) (h : ¬ (0 ≤ m ∧ m ≤ 2000)) (A : Option Addr) (n c : Nat) (w : World) :
    Calls Try.prog 43 #[.slice A n c, .int .i64 m] w fun e w' => e = .returned (.slice none 0 0) ∧ w = w' := by
  have H := Lib.hid h; clear h
  go_enter Try.func43, Try.ntmps43
  go_wp2_with (go_at_call 46; refine (l01In_no _ _ _ H.out _).mono ?_; rintro e w' ⟨rfl, rfl⟩)
  go_ret
  exact ⟨rfl, rfl⟩
theorem info_bool : (Try.prog.info? 4).map (fun i => (i.zero, i.size, i.bytes)) = some (some (.bool false), 1, 1) := by kernel_rfl
/-- Which of the numbers from 0 to m are from 1 on and in zs. -/
def seen (zs : List Int) (m : Nat) : List Bool := (List.range (m + 1)).map fun i : Nat => decide (1 ≤ i ∧ (i : Int) ∈ zs)
theorem seen_at (zs : List Int) (m i : Nat) (h : i ≤ m) : (seen zs m)[i]? = some (decide (1 ≤ i ∧ (i : Int) ∈ zs)) := by
  simp [seen, List.getElem?_range (by omega : i < m + 1)]
theorem seen_length (zs : List Int) (m : Nat) : (seen zs m).length = m + 1 := by simp [seen]
theorem seen_nil (m : Nat) : (seen [] m) = List.replicate (m + 1) false := by
  apply List.ext_getElem
  · simp [seen]
  · intro i h1 h2; simp [seen]
theorem seen_out (zs : List Int) (m : Nat) (z : Int) (h : ¬ (1 ≤ z ∧ z ≤ m)) : seen (zs ++ [z]) m = seen zs m := by
  unfold seen
  apply List.map_congr_left
  intro i hi
  have hi := List.mem_range.1 hi
  rw [decide_eq_decide, List.mem_append, List.mem_singleton]
  constructor
  · rintro ⟨h1, h2 | h2⟩
    · exact ⟨h1, h2⟩
    · omega
  · rintro ⟨h1, h2⟩; exact ⟨h1, .inl h2⟩
theorem seen_in (zs : List Int) (m x : Nat) (h1 : 1 ≤ x) (h2 : x ≤ m) : (seen zs m).set x true = seen (zs ++ [(x : Int)]) m := by
  apply List.ext_getElem?
  intro i
  by_cases hi : i ≤ m
  · rw [List.getElem?_set, seen_at zs m i hi, seen_at (zs ++ [(x : Int)]) m i hi]
    by_cases hx : x = i
    · subst hx
      rw [if_pos rfl, if_pos (by rw [seen_length]; omega)]
      simp [h1]
    · rw [if_neg hx]
      congr 1
      rw [decide_eq_decide, List.mem_append, List.mem_singleton]
      constructor
      · rintro ⟨h1, h2⟩; exact ⟨h1, .inl h2⟩
      · rintro ⟨h1, h2 | h2⟩
        · exact ⟨h1, h2⟩
        · omega
  · rw [List.getElem?_eq_none (by simp [seen_length]; omega), List.getElem?_eq_none (by simp [seen_length]; omega)]
set_option maxHeartbeats 1000000 in
theorem sMissedBy_yes (zs : List Int) (m : Nat) (hm : m ≤ 2000) (A : Option Addr) (c : Nat) (w : World) (hn : zs.length ≤ 4294967296) (hrd : Rds w w.heap.size A (zs.map (Value.int .i64))) :
    Calls Try.prog 43 #[.slice A zs.length c, .int .i64 m] w fun e w' => ∃ A' c', e = .returned (.slice A' (msd zs m).length c') ∧ Own w' w.heap.size 3 (.slice A' (msd zs m).length c') ((msd zs m).map (Value.int .i64)) ∧ Below w.heap.size w w' := by
  have hmk := run_make_row' (P := Try.prog) 49 4 _ 1 Try.underlying49 info_bool rfl .i64 .i64 (m + 1) (by omega) (by omega)
  rw [show ((m + 1 : Nat) : Int) = (m : Int) + 1 from by omega] at hmk
  have HR := Lib.hid hrd; clear hrd
  go_enter Try.func43, Try.ntmps43
  go_wp2_with (go_at_call 46; refine (l01In_yes _ _ _ ⟨by omega, by omega⟩ _).mono ?_; rintro e w' ⟨rfl, rfl⟩)
  clear hmk
  go_loopw [7, 18] (fun _ i wr => ∃ k : Nat, k ≤ zs.length ∧ i = .int .i64 k ∧ Own wr w.heap.size 4 (.slice (some ⟨w.heap.size, 0, none⟩) (m + 1) (m + 1)) ((seen (zs.take k) m).map Value.bool) ∧ Below w.heap.size w wr) (fun _ i _ => zs.length - (intOf i).toNat)
  case atStart => exact ⟨0, by omega, rfl, by rw [List.take_zero, seen_nil, List.map_replicate]; exact Own.made (Nat.le_refl _) (by unfold maxLen; omega), (Below.refl _ _).alloc (Nat.le_refl _) _⟩
  case round =>
    obtain ⟨k, hk, rfl, hown, hbel⟩ := hrel
    by_cases hlt : k < zs.length
    · obtain ⟨z, hz⟩ := some_of_lt (l := zs) (k := k) hlt
      obtain ⟨ad, rfl, hc⟩ := (HR.out.below hbel (Nat.le_refl _)).at_ (map_at (Value.int .i64) hz)
      have htk : zs.take (k + 1) = zs.take k ++ [z] := by rw [List.take_add_one, hz]; rfl
      have HT := Lib.hid htk; clear htk hz
      by_cases hzm : 1 ≤ z ∧ z ≤ (m : Int)
      · obtain ⟨x, rfl⟩ := Int.eq_ofNat_of_zero_le (show 0 ≤ z by omega)
        have hx1 : 1 ≤ x := by omega
        have hx2 : x ≤ m := by omega
        have HZ := Lib.hid hzm; clear hzm
        have hlen : ((seen (zs.take k) m).map Value.bool).length = m + 1 := by rw [List.length_map, seen_length]
        obtain ⟨g, hg, hBg, hgs, hcell, hfr, hst⟩ := hown.store (k := x) (by rw [hlen]; omega)
        injection hg with hg
        injection hg with hg
        subst hg
        rw [map_at Value.bool (seen_at (zs.take k) m x hx2)] at hcell
        have hst1 := hst (.bool true)
        rw [← List.map_set, seen_in _ _ _ hx1 hx2, ← HT.out] at hst1
        have HST := Lib.hid hst1
        clear hst hst1 hlen hown
        go_wp2_with (go_at_call 46; refine (l01In_yes _ _ _ HZ.out _).mono ?_; rintro e w' ⟨rfl, rfl⟩)
        go_roundw
        case rel => exact ⟨k + 1, by omega, by go_num, HST.out.1, hbel.trans HST.out.2.1⟩
        case measure => simp [intOf]; omega
      · have HZ := Lib.hid hzm; clear hzm
        have HO := Lib.hid hown; clear hown
        go_wp2_with (go_at_call 46; refine (l01In_no _ _ _ HZ.out _).mono ?_; rintro e w' ⟨rfl, rfl⟩)
        go_roundw
        case rel => exact ⟨k + 1, by omega, by go_num, by rw [HT.out, seen_out _ _ _ HZ.out]; exact HO.out, hbel⟩
        case measure => simp [intOf]; omega
    · have hkn : zs.take k = zs := List.take_of_length_le (by omega)
      rw [hkn] at hown
      have hr0 := hown.reads
      have hs0 := hbel.size
      clear hkn hown
      have HR0 := Lib.hid hr0; clear hr0
      go_wp2_with fail
      go_loopw [8, 9] (fun v i w2 => ∃ k n : Nat, ∃ A c, k ≤ m ∧ n ≤ k ∧ i = .int .i64 ((k : Int) + 1) ∧ v = .slice A n c ∧ (msd zs k).length = n ∧ Own w2 wr.heap.size 3 (.slice A n c) ((msd zs k).map (Value.int .i64)) ∧ Below wr.heap.size wr w2) (fun _ i _ => m + 1 - (intOf i).toNat)
      case atStart => exact ⟨0, 0, _, _, by omega, by omega, by go_num, rfl, rfl, Own.empty (Nat.le_refl _), (Below.refl _ _).alloc (Nat.le_refl _) _⟩
      case round =>
        obtain ⟨j, n, A', c', hj, hnj, rfl, rfl, hln, hown, hbel2⟩ := hrel
        have HL := Lib.hid hln; clear hln
        have HO := Lib.hid hown; clear hown
        by_cases hlt2 : j < m
        · have hat := map_at Value.bool (seen_at zs m (j + 1) (by omega))
          obtain ⟨ad, had, hcell⟩ := (HR0.out.below hbel2 (Nat.le_refl _)).at_ hat
          injection had with had
          subst had
          rw [show (⟨w.heap.size, 0, none⟩ : Addr).add (j + 1) = ⟨w.heap.size, j + 1, none⟩ from by simp [Addr.add]] at hcell
          clear hat
          by_cases hmem : ((j : Int) + 1) ∈ zs
          · rw [decide_eq_true (show 1 ≤ j + 1 ∧ ((j + 1 : Nat) : Int) ∈ zs from ⟨by omega, by rw [show ((j + 1 : Nat) : Int) = (j : Int) + 1 from by omega]; exact hmem⟩)] at hcell
            have HM := Lib.hid hmem; clear hmem
            go_wp2_with fail
            go_roundw
            case rel => exact ⟨j + 1, n, A', c', by omega, by omega, by go_num, rfl, by rw [msd, if_pos HM.out]; exact HL.out, by rw [msd, if_pos HM.out]; exact HO.out, hbel2⟩
            case measure => simp [intOf]; omega
          · rw [decide_eq_false (show ¬ (1 ≤ j + 1 ∧ ((j + 1 : Nat) : Int) ∈ zs) from fun h => hmem (by rw [show ((j + 1 : Nat) : Int) = (j : Int) + 1 from by omega] at h; exact h.2))] at hcell
            have HM := Lib.hid hmem; clear hmem
            go_wp2_with (at_builtin; refine wp_append1 rfl (.tmp 40) (.tmp 42) 27 rfl _ 8 Try.underlying27 info_int rfl rfl HO.out _ rfl rfl n ?n1 ?n2 ?n3 ?n4 ?_)
            case n1 => rw [List.length_map]; exact HL.out
            case n2 => omega
            case n3 => decide
            case n4 => exact hbel2.size
            intro A2 c2 w1 hown1 hbel1 hsz1
            have hms : msd zs (j + 1) = msd zs j ++ [(j : Int) + 1] := by rw [msd, if_neg HM.out]
            rw [show (msd zs j).map (Value.int .i64) ++ [Value.int .i64 ((j : Int) + 1)] = (msd zs (j + 1)).map (Value.int .i64) from by rw [hms, List.map_append]; rfl] at hown1
            have hl2 : (msd zs (j + 1)).length = n + 1 := by rw [hms, List.length_append, HL.out]; rfl
            have HO1 := Lib.hid hown1; clear hown1 hms
            have HL2 := Lib.hid hl2; clear hl2
            go_wp2_with fail
            go_roundw
            case rel => exact ⟨j + 1, n + 1, A2, c2, by omega, by omega, by go_num, rfl, HL2.out, HO1.out, hbel2.trans hbel1⟩
            case measure => simp [intOf]; omega
        · have hkn : j = m := by omega
          subst hkn
          go_wp2_with fail
          go_ret
          have hl := HL.out
          exact ⟨A', c', by rw [hl]; rfl, by rw [hl]; exact HO.out.lower hs0, hbel.trans (hbel2.mono hs0)⟩
/-- What MissedBy returns. -/
def msdL (zs : List Int) (m : Int) : List Int := if 0 ≤ m ∧ m ≤ 2000 then msd zs m.toNat else []
theorem msdL_length (zs : List Int) (m : Int) : (msdL zs m).length ≤ 2000 := by
  unfold msdL
  split
  · have := msd_length zs m.toNat; omega
  · simp
theorem iMissedBy_any (zs : List Int) (m : Int) (A : Option Addr) (c : Nat) (w : World) (hn : zs.length ≤ 4294967296) (hrd : Rds w w.heap.size A (zs.map (Value.int .i64))) :
    Calls Try.prog 45 #[.slice A zs.length c, .int .i64 m] w fun e w' => ∃ A' c', e = .returned (.slice A' (msdL zs m).length c') ∧ Own w' w.heap.size 3 (.slice A' (msdL zs m).length c') ((msdL zs m).map (Value.int .i64)) ∧ Below w.heap.size w w' := by
  by_cases h : 0 ≤ m ∧ m ≤ 2000
  · rw [show msdL zs m = msd zs m.toNat from if_pos h]
    obtain ⟨k, rfl⟩ := Int.eq_ofNat_of_zero_le h.1
    exact iMissedBy_yes zs k (by omega) A c w hn hrd
  · rw [show msdL zs m = [] from if_neg h]
    exact (iMissedBy_no m h A _ c w).mono fun e w' ⟨he, hw⟩ => ⟨none, 0, he, Own.nil, hw ▸ Below.refl _ _⟩
theorem sMissedBy_any (zs : List Int) (m : Int) (A : Option Addr) (c : Nat) (w : World) (hn : zs.length ≤ 4294967296) (hrd : Rds w w.heap.size A (zs.map (Value.int .i64))) :
    Calls Try.prog 43 #[.slice A zs.length c, .int .i64 m] w fun e w' => ∃ A' c', e = .returned (.slice A' (msdL zs m).length c') ∧ Own w' w.heap.size 3 (.slice A' (msdL zs m).length c') ((msdL zs m).map (Value.int .i64)) ∧ Below w.heap.size w w' := by
  by_cases h : 0 ≤ m ∧ m ≤ 2000
  · rw [show msdL zs m = msd zs m.toNat from if_pos h]
    obtain ⟨k, rfl⟩ := Int.eq_ofNat_of_zero_le h.1
    exact sMissedBy_yes zs k (by omega) A c w hn hrd
  · rw [show msdL zs m = [] from if_neg h]
    exact (sMissedBy_no m h A _ c w).mono fun e w' ⟨he, hw⟩ => ⟨none, 0, he, Own.nil, hw ▸ Below.refl _ _⟩
end Go.Proofs.Ythhbdlafdjmocaa
