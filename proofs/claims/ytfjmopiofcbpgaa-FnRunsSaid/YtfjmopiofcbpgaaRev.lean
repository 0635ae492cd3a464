/- Turned words and IsPalindrome, both. No condition but the bounds. The first half lies in XTurn too (never import both). -/
import Derived.Test.YtfjmopiofcbpgaaStr
import Derived.Test.YtfjmopiofcbpgaaByt
namespace Go.Proofs.Ytfjmopiofcbpgaa
open Go.RowKit
set_option linter.unusedVariables false

def rv (s : ByteArray) : List UInt8 := (L s).reverse
def trn (s : ByteArray) : ByteArray := strOf (rv s)
theorem rv_length (s : ByteArray) : (rv s).length = s.size := by rw [rv, List.length_reverse, L_len]
theorem rv_at (s : ByteArray) (j : Nat) (h : j < s.size) : (rv s)[j]? = some (s[s.size - 1 - j]'(by omega)) := by
  rw [rv, List.getElem?_reverse (by rw [L_len]; exact h), L_len]
  have : s.size - 1 - j < (L s).length := by rw [L_len]; omega
  rw [List.getElem?_eq_getElem this]; rfl
theorem rv_take_succ (s : ByteArray) (j : Nat) (b : UInt8) (h : (rv s)[j]? = some b) : (rv s).take (j + 1) = (rv s).take j ++ [b] := by
  rw [List.take_add_one, h]; rfl
set_option maxRecDepth 4000 in
set_option maxHeartbeats 400000 in
theorem flip_any (s : ByteArray) (hs : s.size ≤ 1000000) (w : World) :
    Calls Try.prog 13 #[.string s] w fun e w' => e = .returned (.string (trn s)) ∧ Below w.heap.size w w' := by
  have HL := Lib.hid (rv_length s)
  go_enter Try.func13, Try.ntmps13
  go_wp2_with fail
  go_loopw [3, 4] (fun v i wr => ∃ j : Nat, ∃ x : Int, ∃ A c, j ≤ s.size ∧ x = (s.size : Int) - 1 - j ∧ i = .int .i64 x ∧ v = .slice A j c ∧ Own wr w.heap.size 5 (.slice A j c) (byV ((rv s).take j)) ∧ Below w.heap.size w wr) (fun _ i _ => (intOf i + 1).toNat)
  case atStart => exact ⟨0, (s.size : Int) - 1, _, _, by omega, by omega, rfl, rfl, Own.empty (Nat.le_refl _), (Below.refl _ _).alloc (Nat.le_refl _) _⟩
  case round =>
    obtain ⟨j, x, A, c, hj, hx, rfl, rfl, hown, hbel⟩ := hrel
    have x1 : x + j + 1 ≤ s.size := by omega
    have x2 : (s.size : Int) ≤ x + j + 1 := by omega
    have x3 : x < (s.size : Int) := by omega
    have HX := Lib.hid hx; clear hx
    have HO := Lib.hid hown; clear hown
    by_cases hlt : 0 ≤ x
    · have hjs : j < s.size := by omega
      obtain ⟨b, hb⟩ : ∃ b, s[x.toNat]'(by omega) = b := ⟨_, rfl⟩
      have hat : (rv s)[j]? = some b := by
        rw [rv_at s j hjs, ← hb]; congr 1; congr 1; omega
      have HT := Lib.hid (rv_take_succ s j b hat); clear hat
      have hdl : ((rv s).take j).length = j := by rw [List.length_take, HL.out]; omega
      have HDL := Lib.hid hdl; clear hdl
      go_wp2_with (at_builtin; refine wp_append1 rfl (.tmp 13) (.tmp 17) 22 rfl _ 1 Try.underlying22 info_u8 rfl rfl HO.out _ rfl rfl j ?n1 ?n2 ?n3 ?n4 ?_)
      case n1 => rw [byV_length, HDL.out]
      case n2 => omega
      case n3 => decide
      case n4 => exact hbel.size
      intro A' c' w2 hown2 hbel2 hsz2
      rw [byV_snoc, ← HT.out] at hown2
      have HO2 := Lib.hid hown2; clear hown2
      go_wp2_with fail
      go_roundw
      case rel => exact ⟨j + 1, x - 1, A', c', by omega, by omega, by go_num, rfl, HO2.out, hbel.trans hbel2⟩
      case measure => simp [intOf]; omega
    · have hjs : j = s.size := by omega
      have h1 : (rv s).take j = rv s := List.take_of_length_le (by rw [HL.out]; omega)
      have HO2 := HO.out
      rw [h1] at HO2
      have hcv := HO2.reads.conv (P := Try.prog) (HL.out.trans hjs.symm) 22 9 5 c Try.underlying22 Try.underlying5 Try.underlying9
      clear HO2 h1 hjs x1 x2 x3
      go_wp2_with fail
      go_ret
      exact ⟨rfl, hbel⟩
def palB (s : ByteArray) : Bool := s.toList == (trn s).toList
theorem palB_back (s : ByteArray) : ((trn s).toList == s.toList) = palB s := by rw [palB]; exact BEq.comm
end Go.Proofs.Ytfjmopiofcbpgaa
