/- LowerWord, both: the letter a at each lower number, b at the others. -/
import Derived.Test.YtkmkaaomkjhlgaaDoorIdx
import Derived.Test.YtkmkaaomkjhlgaaDoorByt
namespace Go.Proofs.YtkmkaaomkjhlgaaDoor
open Go.RowKit
set_option linter.unusedVariables false

noncomputable def lwAt (k : Nat) : UInt8 := if (idxOf ((k : Int) + 1)).2 then 97 else 98
noncomputable def lwW (n : Nat) : List UInt8 := (List.range n).map lwAt
theorem lwW_length (n : Nat) : (lwW n).length = n := by simp [lwW]
theorem lwW_succ (k : Nat) : lwW (k + 1) = lwW k ++ [lwAt k] := by simp [lwW, List.range_succ]

set_option maxHeartbeats 400000 in
theorem iLowerWord_yes (n : Nat) (hn : n ≤ 400) (w : World) :
    Calls Tryd.prog 17 #[.int .i64 n] w fun e w' => e = .returned (.tuple #[.string (strOf (lwW n)), .bool true]) ∧ Below w.heap.size w w' := by
  go_enter Tryd.func17, Tryd.ntmps17
  go_wp2_with (go_at_call 30; refine (within_yes _ _ _ ⟨by omega, by omega⟩ _).mono ?_; rintro e w' ⟨rfl, rfl⟩)
  go_loopw [4, 5, 6, 7] (fun b i _ _ wr => ∃ k : Nat, ∃ x : Int, ∃ A c, k ≤ n ∧ x = k + 1 ∧ i = .int .i64 x ∧ b = .slice A k c ∧ Own wr w.heap.size 5 (.slice A k c) (byV (lwW k)) ∧ Below w.heap.size w wr) (fun _ i _ _ _ => n + 1 - (intOf i).toNat)
  case atStart => exact ⟨0, 1, _, _, by omega, rfl, rfl, rfl, Own.empty (Nat.le_refl _), (Below.refl _ _).alloc (Nat.le_refl _) _⟩
  case round =>
    obtain ⟨k, x, A, c, hk, hx, rfl, rfl, hown, hbel⟩ := hrel
    have hx1 : 1 ≤ x := by omega
    have hx2 : (k : Int) + 1 ≤ x := by omega
    have hx3 : x ≤ (k : Int) + 1 := by omega
    have HX := Lib.hid hx; clear hx
    by_cases hlt : k < n
    · have hx4 : x ≤ n := by omega
      cases hl : (idxOf x).2
      · have hat : lwAt k = 98 := by unfold lwAt; rw [← HX.out, hl]; rfl
        have HAT := Lib.hid hat; have HL := Lib.hid hl; clear hat hl
        have HO := Lib.hid hown; clear hown
        go_wp2_with fail
        refine (iIndexOf_yes x (by omega) (by omega) _).mono ?_
        rw [HL.out]
        rintro e w1 ⟨rfl, b1⟩
        have hown1 := HO.out.below (b1.mono (Nat.le_refl _))
        have HO1 := Lib.hid hown1; clear hown1 HO
        have hbel1 : Below w.heap.size w w1 := hbel.trans (b1.mono hbel.size)
        clear hbel b1
        go_wp2_with (at_builtin; refine wp_append1 rfl (.tmp 26) (.tmp 27) 31 rfl _ 1 Tryd.underlying31 info_u8 rfl rfl HO1.out _ rfl rfl k ?n1 ?n2 ?n3 ?n4 ?_)
        case n1 => rw [byV_length, lwW_length]
        case n2 => omega
        case n3 => decide
        case n4 => exact hbel1.size
        intro A' c' w2 hown2 hbel2 hsz2
        rw [show byV (lwW k) ++ [Value.int .u8 98] = byV (lwW (k + 1)) from by rw [lwW_succ, HAT.out, ← byV_snoc]; rfl] at hown2
        have HO2 := Lib.hid hown2; clear hown2
        go_wp2_with fail
        go_roundw
        case rel => exact ⟨k + 1, x + 1, A', c', by omega, by omega, rfl, rfl, HO2.out, hbel1.trans hbel2⟩
        case measure => simp [intOf]; omega
      · have hat : lwAt k = 97 := by unfold lwAt; rw [← HX.out, hl]; rfl
        have HAT := Lib.hid hat; have HL := Lib.hid hl; clear hat hl
        have HO := Lib.hid hown; clear hown
        go_wp2_with fail
        refine (iIndexOf_yes x (by omega) (by omega) _).mono ?_
        rw [HL.out]
        rintro e w1 ⟨rfl, b1⟩
        have hown1 := HO.out.below (b1.mono (Nat.le_refl _))
        have HO1 := Lib.hid hown1; clear hown1 HO
        have hbel1 : Below w.heap.size w w1 := hbel.trans (b1.mono hbel.size)
        clear hbel b1
        go_wp2_with (at_builtin; refine wp_append1 rfl (.tmp 23) (.tmp 24) 31 rfl _ 1 Tryd.underlying31 info_u8 rfl rfl HO1.out _ rfl rfl k ?n1 ?n2 ?n3 ?n4 ?_)
        case n1 => rw [byV_length, lwW_length]
        case n2 => omega
        case n3 => decide
        case n4 => exact hbel1.size
        intro A' c' w2 hown2 hbel2 hsz2
        rw [show byV (lwW k) ++ [Value.int .u8 97] = byV (lwW (k + 1)) from by rw [lwW_succ, HAT.out, ← byV_snoc]; rfl] at hown2
        have HO2 := Lib.hid hown2; clear hown2
        go_wp2_with fail
        go_roundw
        case rel => exact ⟨k + 1, x + 1, A', c', by omega, by omega, rfl, rfl, HO2.out, hbel1.trans hbel2⟩
        case measure => simp [intOf]; omega
    · have hkn : k = n := by omega
      subst hkn
      have hgt : decide (x ≤ (k : Int)) = false := by simp; omega
      clear hx1 hx2 hx3 hlt hk hn
      have hcv := hown.reads.conv (P := Tryd.prog) (lwW_length k) 31 9 5 c Tryd.underlying31 Tryd.underlying5 Tryd.underlying9
      clear hown
      set_option maxRecDepth 4000 in go_wp2_with fail
      go_ret2
      exact ⟨rfl, hbel⟩
set_option maxHeartbeats 400000 in
theorem iLowerWord_no (n : Int) (h : ¬ (0 ≤ n ∧ n ≤ 400)) (w : World) :
    Calls Tryd.prog 17 #[.int .i64 n] w fun e w' => e = .returned (.tuple #[.string ByteArray.empty, .bool false]) ∧ Below w.heap.size w w' := by
  have H := Lib.hid h; clear h
  go_enter Tryd.func17, Tryd.ntmps17
  go_wp2_with (go_at_call 30; refine (within_no _ _ _ H.out _).mono ?_; rintro e w' ⟨rfl, rfl⟩)
  go_ret2
  exact ⟨rfl, Below.refl _ _⟩
end Go.Proofs.YtkmkaaomkjhlgaaDoor
