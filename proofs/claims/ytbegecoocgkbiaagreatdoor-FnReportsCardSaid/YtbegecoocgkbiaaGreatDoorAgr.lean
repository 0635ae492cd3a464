/- AgreementsOf, both: the agreements at all shifts. -/
import Derived.Test.YtbegecoocgkbiaaGreatDoorM7
import Derived.Test.YtbegecoocgkbiaaGreatDoorM1
namespace Go.Proofs.YtbegecoocgkbiaaGreatDoor
open Go.RowKit
set_option linter.unusedVariables false

def agrs (l : List UInt8) (n : Nat) : List Int := (List.range n).map fun k => agr l k
theorem agrs_length (l : List UInt8) (n : Nat) : (agrs l n).length = n := by simp [agrs]
theorem agrs_at (l : List UInt8) (n k : Nat) (h : k < n) : (agrs l n)[k]? = some (agr l k) := by
  rw [agrs, List.getElem?_map, List.getElem?_range h]; rfl
theorem agrs_succ (l : List UInt8) (k : Nat) : agrs l (k + 1) = agrs l k ++ [agr l k] := by simp [agrs, List.range_succ]
/-- What AgreementsOf returns. -/
def agrsL (l : List UInt8) : List Int := if isW l = true ∧ l.length ≤ 100 then agrs l (l.length + 1) else []
theorem agrsL_length (l : List UInt8) : (agrsL l).length ≤ 101 := by
  unfold agrsL; split
  · rw [agrs_length]; omega
  · simp

set_option maxHeartbeats 400000 in
theorem iAgreementsOf_yes (s : ByteArray) (hs : s.size ≤ maxLen) (h1 : isW (L s) = true) (h2 : s.size ≤ 100) (w : World) :
    Calls Tryz.prog 32 #[.string s] w fun e w' => ∃ A c, e = .returned (.slice A (s.size + 1) c) ∧ Own w' w.heap.size 3 (.slice A (s.size + 1) c) ((agrs (L s) (s.size + 1)).map (Value.int .i64)) ∧ Below w.heap.size w w' := by
  have H1 := Lib.hid h1; clear h1
  have hd0 : decide (100 < (s.size : Int)) = false := by simp; omega
  go_enter Tryz.func32, Tryz.ntmps32
  go_wp2_with (go_at_call 70; refine (isWord_is s _ hs H1.out _).mono ?_; rintro e w' ⟨rfl, rfl⟩)
  clear hd0
  go_loopw [3, 4, 17] (fun v _ i wr => ∃ k : Nat, ∃ A c, k ≤ s.size + 1 ∧ i = .int .i64 k ∧ v = .slice A k c ∧ Own wr w.heap.size 3 (.slice A k c) ((agrs (L s) k).map (Value.int .i64)) ∧ Below w.heap.size w wr) (fun _ _ i _ => s.size + 1 - (intOf i).toNat)
  case atStart => exact ⟨0, _, _, by omega, rfl, rfl, Own.empty (Nat.le_refl _), (Below.refl _ _).alloc (Nat.le_refl _) _⟩
  case round =>
    obtain ⟨k, A, c, hk, rfl, rfl, hown, hbel⟩ := hrel
    by_cases hlt : k < s.size + 1
    · have hks : k ≤ s.size := by omega
      have HO := Lib.hid hown; clear hown
      go_wp2_with fail
      refine (iAgreementAt_yes s k hs H1.out hks _).mono ?_
      rintro e w1 ⟨rfl, hd1⟩
      have hown1 := HO.out.dr hd1
      have HO1 := Lib.hid hown1; clear hown1
      have hbel1 : Below w.heap.size w w1 := hbel.trans hd1.below
      go_wp2_with (at_builtin; refine wp_append1 rfl (.tmp 20) (.tmp 24) 34 rfl _ 8 Tryz.underlying34 info_int rfl rfl HO1.out _ rfl rfl k ?n1 ?n2 ?n3 ?n4 ?_)
      case n1 => simp [agrs_length]
      case n2 => omega
      case n3 => decide
      case n4 => exact hbel1.size
      intro A' c' w2 hown2 hbel2 hsz2
      rw [show (agrs (L s) k).map (Value.int .i64) ++ [Value.int .i64 (agr (L s) k)] = (agrs (L s) (k + 1)).map (Value.int .i64) from by rw [agrs_succ, List.map_append]; rfl] at hown2
      have HO2 := Lib.hid hown2; clear hown2
      go_wp2_with fail
      go_roundw
      case rel => exact ⟨k + 1, A', c', by omega, by go_num, rfl, HO2.out, hbel1.trans hbel2⟩
      case measure => simp [intOf]; omega
    · have hkn : k = s.size + 1 := by omega
      subst hkn
      go_wp2_with fail
      go_ret
      exact ⟨A, c, rfl, hown, hbel⟩
set_option maxHeartbeats 400000 in
theorem iAgreementsOf_no (s : ByteArray) (hs : s.size ≤ maxLen) (h : ¬ (isW (L s) = true ∧ s.size ≤ 100)) (w : World) :
    Calls Tryz.prog 32 #[.string s] w fun e w' => e = .returned (.slice none 0 0) ∧ w = w' := by
  cases h1 : isW (L s)
  · have H1 := Lib.hid h1; clear h1 h
    go_enter Tryz.func32, Tryz.ntmps32
    go_wp2_with (go_at_call 70; refine (isWord_is s _ hs H1.out _).mono ?_; rintro e w' ⟨rfl, rfl⟩)
    go_ret
    exact ⟨rfl, rfl⟩
  · have h2 : 100 < s.size := Nat.lt_of_not_le fun h2 => h ⟨h1, h2⟩
    have H1 := Lib.hid h1; clear h1 h
    go_enter Tryz.func32, Tryz.ntmps32
    go_wp2_with (go_at_call 70; refine (isWord_is s _ hs H1.out _).mono ?_; rintro e w' ⟨rfl, rfl⟩)
    go_ret
    exact ⟨rfl, rfl⟩
theorem iAgreementsOf_any (s : ByteArray) (hs : s.size ≤ maxLen) (w : World) :
    Calls Tryz.prog 32 #[.string s] w fun e w' => ∃ A c, e = .returned (.slice A (agrsL (L s)).length c) ∧ Own w' w.heap.size 3 (.slice A (agrsL (L s)).length c) ((agrsL (L s)).map (Value.int .i64)) ∧ Below w.heap.size w w' := by
  by_cases h : isW (L s) = true ∧ s.size ≤ 100
  · rw [show agrsL (L s) = agrs (L s) (s.size + 1) from by rw [agrsL, L_len, if_pos h], agrs_length]
    exact iAgreementsOf_yes s hs h.1 h.2 w
  · rw [show agrsL (L s) = [] from by rw [agrsL, L_len, if_neg h]]
    exact (iAgreementsOf_no s hs h w).mono fun e w' ⟨he, hw⟩ => ⟨none, 0, he, Own.nil, hw ▸ Below.refl _ _⟩
end Go.Proofs.YtbegecoocgkbiaaGreatDoor
