/- PeriodsOf, the program's. No condition but the bounds. -/
import Derived.Test.YtfjmopiofcbpgaaPow
import Derived.Test.YtfjmopiofcbpgaaHelp
namespace Go.Proofs.Ytfjmopiofcbpgaa
open Go.RowKit
set_option linter.unusedVariables false

noncomputable def perB (s : ByteArray) (p : Nat) : Bool := @decide (PerOn s 0 s.size p) (Classical.propDecidable _)
theorem perB_iff (s : ByteArray) (p : Nat) : perB s p = true ↔ PerOn s 0 s.size p := by simp [perB]
/-- The periods up to k. -/
noncomputable def pdL (s : ByteArray) : Nat → List Int
  | 0 => []
  | k + 1 => if perB s (k + 1) = true then pdL s k ++ [(k : Int) + 1] else pdL s k
theorem pdL_len (s : ByteArray) : ∀ k, (pdL s k).length ≤ k
  | 0 => Nat.le_refl _
  | k + 1 => by have := pdL_len s k; simp only [pdL]; split <;> simp <;> omega
theorem pdL_mem (s : ByteArray) (x : Int) : ∀ k, x ∈ pdL s k ↔ ∃ p : Nat, x = (p : Int) ∧ 1 ≤ p ∧ p ≤ k ∧ PerOn s 0 s.size p
  | 0 => by simp [pdL]; omega
  | k + 1 => by
    simp only [pdL]
    have ih := pdL_mem s x k
    split
    · rename_i h
      rw [perB_iff] at h
      rw [List.mem_append, ih, List.mem_singleton]
      constructor
      · rintro (⟨p, a, b, c, d⟩ | e)
        · exact ⟨p, a, b, by omega, d⟩
        · exact ⟨k + 1, by omega, by omega, by omega, h⟩
      · rintro ⟨p, a, b, c, d⟩
        by_cases hp : p = k + 1
        · right; omega
        · exact .inl ⟨p, a, b, by omega, d⟩
    · rename_i h
      rw [perB_iff] at h
      rw [ih]
      constructor
      · rintro ⟨p, a, b, c, d⟩; exact ⟨p, a, b, by omega, d⟩
      · rintro ⟨p, a, b, c, d⟩
        by_cases hp : p = k + 1
        · subst hp; exact absurd d h
        · exact ⟨p, a, b, by omega, d⟩
set_option maxHeartbeats 400000 in
theorem iPeriods_yes (s : ByteArray) (h0 : isW (L s) = true) (w : World) :
    Calls Try.prog 25 #[.string s] w fun e w' => ∃ A c, e = .returned (.slice A (pdL s s.size).length c) ∧ Own w' w.heap.size 3 (.slice A (pdL s s.size).length c) ((pdL s s.size).map (Value.int .i64)) ∧ Below w.heap.size w w' := by
  have h4 := isW_size h0
  have H0 := Lib.hid h0; clear h0
  go_enter Try.func25, Try.ntmps25
  go_wp2_with (go_at_call 46; refine (isWord_is s true (by unfold maxLen; omega) H0.out _).mono ?_; rintro e w' ⟨rfl, rfl⟩)
  go_loopw [3, 4] (fun v i wr => ∃ k n : Nat, ∃ A c, k ≤ s.size ∧ n ≤ k ∧ i = .int .i64 ((k : Int) + 1) ∧ v = .slice A n c ∧ (pdL s k).length = n ∧ Own wr w.heap.size 3 (.slice A n c) ((pdL s k).map (Value.int .i64)) ∧ Below w.heap.size w wr) (fun _ i _ => s.size + 1 - (intOf i).toNat)
  case atStart => exact ⟨0, 0, _, _, by omega, by omega, by go_num, rfl, rfl, Own.empty (Nat.le_refl _), (Below.refl _ _).alloc (Nat.le_refl _) _⟩
  case round =>
    obtain ⟨k, n, A, c, hk, hnk, rfl, rfl, hl, hown, hbel⟩ := hrel
    have HL := Lib.hid hl; have HO := Lib.hid hown
    clear hl hown
    by_cases hlt : k < s.size
    · have hlt2 : (k : Int) + 1 ≤ (s.size : Int) := by omega
      have hp := fun v => isPow_is s 0 s.size (k + 1) (perB s (k + 1)) h4 (by omega) (by omega) (by omega) (by rw [perB_iff]; constructor <;> intro h; exact ⟨by omega, h⟩; exact h.2) v
      have hk1 : ((k + 1 : Nat) : Int) = (k : Int) + 1 := by omega
      rw [hk1] at hp
      have HP := Lib.hid hp
      clear hp hk1
      cases hb : perB s (k + 1)
      · have hv : pdL s (k + 1) = pdL s k := by simp only [pdL, hb]; simp
        have HV := Lib.hid hv
        rw [hb] at HP
        clear hv hb
        go_wp2_with fail
        refine (HP.out _).mono ?_
        rintro e w1 ⟨rfl, d1⟩
        go_wp2_with fail
        go_roundw
        case rel => exact ⟨k + 1, n, A, c, by omega, by omega, by go_num, rfl, by rw [HV.out]; exact HL.out, by rw [HV.out]; exact HO.out.dr d1, hbel.trans d1.below⟩
        case measure => simp [intOf]; omega
      · have hv : pdL s (k + 1) = pdL s k ++ [(k : Int) + 1] := by simp only [pdL, hb]; simp
        have HV := Lib.hid hv
        rw [hb] at HP
        clear hv hb
        go_wp2_with fail
        refine (HP.out _).mono ?_
        rintro e w1 ⟨rfl, d1⟩
        have hb1 := hbel.trans d1.below
        have HO1 := Lib.hid (HO.out.dr d1)
        clear HO hbel
        go_wp2_with (at_builtin; refine wp_append1 rfl (.tmp 20) (.tmp 22) 25 rfl _ 8 Try.underlying25 info_int rfl rfl HO1.out _ rfl rfl n ?n1 ?n2 ?n3 ?n4 ?_)
        case n1 => rw [List.length_map, HL.out]
        case n2 => omega
        case n3 => decide
        case n4 => exact hb1.size
        intro A2 c2 w2 hown2 hbel2 hsz2
        have HO2 := Lib.hid hown2; clear hown2
        go_wp2_with fail
        go_roundw
        case rel => exact ⟨k + 1, n + 1, A2, c2, by omega, by omega, by go_num, rfl, by rw [HV.out, List.length_append, HL.out]; rfl, by rw [HV.out, List.map_append]; exact HO2.out, hb1.trans hbel2⟩
        case measure => simp [intOf]; omega
    · have hks : k = s.size := by omega
      subst hks
      have hlt2 : decide ((s.size : Int) + 1 ≤ (s.size : Int)) = false := decide_eq_false (by omega)
      go_wp2_with fail
      go_ret
      rw [HL.out]
      exact ⟨A, c, rfl, HO.out, hbel⟩
end Go.Proofs.Ytfjmopiofcbpgaa
