/- ComplexityOf, FactorLine, both. Asks the shelf's text. No condition. -/
import Derived.Test.YtbegecoocgkbiaaGreatDoorM28
import Derived.Test.YtbegecoocgkbiaaGreatDoorFnm
namespace Go.Proofs.YtbegecoocgkbiaaGreatDoor
open Go.RowKit
set_option linter.unusedVariables false

def cpL (s : ByteArray) (n : Nat) : List Int := (List.range n).map fun k => (cpx s (k + 1) : Int)
theorem cpL_len (s : ByteArray) (n : Nat) : (cpL s n).length = n := by simp [cpL]
theorem cpL_succ (s : ByteArray) (n : Nat) : cpL s (n + 1) = cpL s n ++ [(cpx s (n + 1) : Int)] := by simp [cpL, List.range_succ]
theorem cpL_64 {s : ByteArray} (hs : s.size ≤ 400) (n : Nat) : ∀ z ∈ cpL s n, I64 z := fun z hz => by
  rw [cpL, List.mem_map] at hz
  obtain ⟨k, _, rfl⟩ := hz
  have := cpx_le s (k + 1) (by omega)
  unfold I64; omega
def fclV (s : ByteArray) (n : Int) : ByteArray := if isW (L s) = true ∧ (1 ≤ n ∧ n ≤ 20) then fnmV (cpL s n.toNat) else { data := #[110, 111, 110, 101] }
set_option maxRecDepth 4000 in
set_option maxHeartbeats 1000000 in
theorem iFcl_yes (s : ByteArray) (n : Nat) (h0 : isW (L s) = true) (h1 : 1 ≤ n) (h2 : n ≤ 20) (w : World) (ht : TB w) :
    Calls Tryz.prog 44 #[.string s, .int .i64 n] w fun e w' => e = .returned (.string (fnmV (cpL s n))) ∧ Below w.heap.size w w' := by
  have h4 := isW_size h0
  have hs9 : s.size ≤ maxLen := by unfold maxLen; omega
  have H0 := Lib.hid h0; have HT := Lib.hid ht
  have H2 := Lib.hid (fun w => within_yes (n : Int) 1 20 ⟨by omega, by omega⟩ w)
  have HC := Lib.hid (fun k (h1 : 1 ≤ k) (h2 : k ≤ 400) w => iCpx_yes s k h0 h1 h2 w)
  clear h0 ht
  go_enter Tryz.func44, Tryz.ntmps44
  go_wp2_with (first
    | (go_at_call 70; with_reducible refine (isWord_is s _ hs9 H0.out _).mono ?_; rintro e w' ⟨rfl, rfl⟩)
    | (go_at_call 61; with_reducible refine (H2.out _).mono ?_; rintro e w' ⟨rfl, rfl⟩))
  go_loopw [5, 6] (fun v i wr => ∃ k g c : Nat, k ≤ n ∧ i = .int .i64 ((k : Int) + 1) ∧ v = .slice (some ⟨g, 0, none⟩) k c ∧ Own wr w.heap.size 3 (.slice (some ⟨g, 0, none⟩) k c) ((cpL s k).map (Value.int .i64)) ∧ Below w.heap.size w wr) (fun _ i _ => n + 1 - (intOf i).toNat)
  case atStart => exact ⟨0, w.heap.size, 0, by omega, rfl, rfl, Own.empty (Nat.le_refl _), (Below.refl _ _).alloc (Nat.le_refl _) _⟩
  case round =>
    obtain ⟨k, g, c, hk, rfl, rfl, hown, hbel⟩ := hrel
    have HO := Lib.hid hown
    have hsz := hbel.size
    clear hown
    by_cases hlt : k < n
    · have hlt1 : (k : Int) + 1 ≤ (n : Int) := by omega
      have hcp := cpx_le s (k + 1) (by omega)
      go_wp2_with fail
      refine (HC.out (k + 1) (by omega) (by omega) _).mono ?_
      rintro e w2 ⟨rfl, hb2⟩
      have hown2 := HO.out.below hb2
      have HO2 := Lib.hid hown2
      have hsz2 := hb2.size
      have hbel2 := hbel.trans (hb2.mono hsz)
      have hsz3 := hbel2.size
      have hl3 : ((cpL s k).map (Value.int .i64)).length = k := by rw [List.length_map, cpL_len]
      have HL3 := Lib.hid hl3
      have hm9 : k < 4294967296 := by omega
      clear hown2 hl3
      go_wp2_with (at_builtin; refine wp_append4 rfl (.tmp 21) (.tmp 25) 34 rfl _ 8 Tryz.underlying34 info_int rfl k c rfl HO2.out _ rfl rfl HL3.out hm9 (by decide) hsz3 ?_)
      intro g4 c4 w4 ha4
      have hown4 := ha4.own
      rw [show (cpL s k).map (Value.int .i64) ++ [Value.int .i64 (cpx s (k + 1) : Int)] = (cpL s (k + 1)).map (Value.int .i64) from by rw [cpL_succ, List.map_append]; rfl] at hown4
      have HO4 := Lib.hid hown4
      have hbel4 := hbel2.trans ha4.bel
      clear ha4 hown4
      go_wp2_with fail
      go_roundw
      case rel => exact ⟨k + 1, g4, c4, by omega, by go_num, rfl, HO4.out, hbel4⟩
      case measure => simp [intOf]; omega
    · have hke : k = n := by omega
      subst hke
      have hge : ¬ (k : Int) + 1 ≤ (k : Int) := by omega
      have hfm := iFnm_any (cpL s k) (some ⟨g, 0, none⟩) c wr.heap.size wr (Nat.le_refl _) (cpL_64 h4 k) HO.out.reads (by rw [cpL_len]; omega) (HT.out.below hbel)
      rw [cpL_len] at hfm
      have HFM := Lib.hid hfm
      clear hfm
      go_wp2_with fail
      refine HFM.out.mono ?_
      rintro e w2 ⟨rfl, hb2⟩
      go_wp2_with fail
      go_ret
      exact ⟨rfl, hbel.trans (hb2.mono hsz)⟩
theorem iFcl_any (s : ByteArray) (n : Int) (hs : s.size ≤ maxLen) (w : World) (ht : TB w) :
    Calls Tryz.prog 44 #[.string s, .int .i64 n] w fun e w' => e = .returned (.string (fclV s n)) ∧ Below w.heap.size w w' := by
  by_cases h : isW (L s) = true ∧ (1 ≤ n ∧ n ≤ 20)
  · obtain ⟨m, rfl⟩ := Int.eq_ofNat_of_zero_le (show 0 ≤ n by omega)
    rw [fclV, if_pos h]
    exact iFcl_yes s m h.1 (by omega) (by omega) w ht
  · rw [fclV, if_neg h]
    cases h0 : isW (L s)
    · have H0 := Lib.hid h0
      clear h0 h
      go_enter Tryz.func44, Tryz.ntmps44
      go_wp2_with (go_at_call 70; with_reducible refine (isWord_is s _ hs H0.out _).mono ?_; rintro e w' ⟨rfl, rfl⟩)
      go_ret
      exact ⟨rfl, Below.refl _ _⟩
    · have H0 := Lib.hid h0
      have H2 := Lib.hid (fun w => within_no n 1 20 (fun h2 => h ⟨h0, h2⟩) w)
      clear h0 h
      go_enter Tryz.func44, Tryz.ntmps44
      go_wp2_with (first
        | (go_at_call 70; with_reducible refine (isWord_is s _ hs H0.out _).mono ?_; rintro e w' ⟨rfl, rfl⟩)
        | (go_at_call 61; with_reducible refine (H2.out _).mono ?_; rintro e w' ⟨rfl, rfl⟩))
      go_ret
      exact ⟨rfl, Below.refl _ _⟩
end Go.Proofs.YtbegecoocgkbiaaGreatDoor
