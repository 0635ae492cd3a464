/- Turned words and IsPalindrome, both. No condition but the bounds. The first half lies in XTurn too (never import both). -/
import Derived.Test.YtbegecoocgkbiaaGreatDoorStr
import Derived.Test.YtbegecoocgkbiaaGreatDoorM1
namespace Go.Proofs.YtbegecoocgkbiaaGreatDoor
open Go.RowKit
set_option linter.unusedVariables false

def rv (s : ByteArray) : List UInt8 := (L s).reverse
def trn (s : ByteArray) : ByteArray := strOf (rv s)
theorem rv_length (s : ByteArray) : (rv s).length = s.size := by rw [rv, List.length_reverse, L_len]
theorem rv_at (s : ByteArray) (j : Nat) (h : j < s.size) : (rv s)[j]? = some (s[s.size - 1 - j]'(by omega)) := by
  rw [rv, List.getElem?_reverse (by rw [L_len]; exact h), L_len]
  have : s.size - 1 - j < (L s).length := by rw [L_len]; omega
  rw [List.getElem?_eq_getElem this]; rfl
theorem rv_take_succ (s : ByteArray) (j : Nat) (b : UInt8) (h : (rv s)[j]? = some b) : (rv s).take (j + 1) = (rv s).take j ++ [b] := by
  rw [List.take_add_one, h]; rfl
theorem tr_step (l : List UInt8) (n k : Nat) (b : UInt8) (hl : l.length = n) (hk : k < n) (hb : l[n - 1 - k]? = some b) :
    (List.replicate (n - k) (0 : UInt8) ++ l.drop (n - k)).set (n - 1 - k) b = List.replicate (n - (k + 1)) 0 ++ l.drop (n - (k + 1)) := by
  obtain ⟨m, hm⟩ : ∃ m, n - k = m + 1 := ⟨n - k - 1, by omega⟩
  have e1 : n - 1 - k = m := by omega
  have e2 : n - (k + 1) = m := by omega
  rw [e1] at hb
  rw [hm, e1, e2]
  rw [List.replicate_succ', List.append_assoc, List.set_append_right _ _ (by simp), List.length_replicate, Nat.sub_self, List.singleton_append, List.set_cons_zero]
  congr 1
  obtain ⟨hlt, he⟩ := List.getElem?_eq_some_iff.1 hb
  rw [List.drop_eq_getElem_cons hlt, he]
set_option maxRecDepth 4000 in
set_option maxHeartbeats 400000 in
theorem turned_any (s : ByteArray) (hs : s.size ≤ 1000000) (w : World) :
    Calls Tryz.prog 120 #[.string s] w fun e w' => e = .returned (.string (trn s)) ∧ Below w.heap.size w w' := by
  have HL := Lib.hid (rv_length s)
  have hmk := run_make_row' (P := Tryz.prog) 22 5 _ 1 Tryz.underlying22 info_u8 rfl .i64 .i64 s.size (by omega) (by omega)
  go_enter Tryz.func120, Tryz.ntmps120
  go_wp2_with fail
  go_loopw [4, 10] (fun _ i wr => ∃ k : Nat, k ≤ s.size ∧ i = .int .i64 k ∧ Own wr w.heap.size 5 (.slice (some ⟨w.heap.size, 0, none⟩) s.size s.size) (byV (List.replicate (s.size - k) 0 ++ (rv s).drop (s.size - k))) ∧ Below w.heap.size w wr) (fun _ i _ => s.size - (intOf i).toNat)
  case atStart =>
    refine ⟨0, by omega, rfl, ?_, (Below.refl _ _).alloc (Nat.le_refl _) _⟩
    have h1 : byV (List.replicate (s.size - 0) 0 ++ (rv s).drop (s.size - 0)) = List.replicate s.size (Value.int .u8 0) := by
      rw [List.drop_eq_nil_of_le (by rw [HL.out]; omega)]; simp [byV]
    rw [h1]
    exact Own.made (Nat.le_refl _) (by unfold maxLen; omega)
  case round =>
    obtain ⟨k, hk, rfl, hown, hbel⟩ := hrel
    by_cases hlt : k < s.size
    · obtain ⟨b, hb⟩ : ∃ b, s[k]'hlt = b := ⟨_, rfl⟩
      have hat : (rv s)[s.size - 1 - k]? = some b := by
        rw [rv_at s _ (by omega), ← hb]; congr 1; congr 1; omega
      have hlen : (byV (List.replicate (s.size - k) 0 ++ (rv s).drop (s.size - k))).length = s.size := by rw [byV_length]; simp [HL.out]
      obtain ⟨g, hg, hBg, hgs, hcell, hfr, hst⟩ := hown.store (k := s.size - 1 - k) (by rw [hlen]; omega)
      injection hg with hg
      injection hg with hg
      subst hg
      obtain ⟨old, hold⟩ := some_of_lt (l := byV (List.replicate (s.size - k) 0 ++ (rv s).drop (s.size - k))) (k := s.size - 1 - k) (by rw [hlen]; omega)
      rw [hold] at hcell
      have hst1 := hst (.int .u8 b.toNat)
      have hset : (byV (List.replicate (s.size - k) 0 ++ (rv s).drop (s.size - k))).set (s.size - 1 - k) (.int .u8 b.toNat) = byV (List.replicate (s.size - (k + 1)) 0 ++ (rv s).drop (s.size - (k + 1))) := by
        rw [byV, ← tr_step (rv s) s.size k b HL.out hlt hat, byV, List.map_set]
      rw [hset] at hst1
      have HST := Lib.hid hst1
      have hp1 : IntKind.i64.wrap ((s.size : Int) - 1) = (s.size : Int) - 1 := IntWalk.i64_in _ (by omega)
      have hp2 : IntKind.i64.wrap ((s.size : Int) - 1 - k) = ((s.size - 1 - k : Nat) : Int) := by rw [IntWalk.i64_in _ (by omega)]; omega
      have hp3 : (s.size : Int) - 1 - k = ((s.size - 1 - k : Nat) : Int) := by omega
      have hp4 : s.size - 1 - k < s.size := by omega
      clear hst hst1 hset hlen hown hold hat
      go_wp2_with fail
      go_roundw
      case rel => exact ⟨k + 1, by omega, by go_num, HST.out.1, hbel.trans HST.out.2.1⟩
      case measure => simp [intOf]; omega
    · have hkn : k = s.size := by omega
      have h1 : List.replicate (s.size - k) (0 : UInt8) ++ (rv s).drop (s.size - k) = rv s := by rw [hkn]; simp
      rw [h1] at hown
      have hcv := hown.reads.conv (P := Tryz.prog) HL.out 22 9 5 s.size Tryz.underlying22 Tryz.underlying5 Tryz.underlying9
      clear hown h1 hkn
      go_wp2_with fail
      go_ret
      exact ⟨rfl, hbel⟩
def palB (s : ByteArray) : Bool := s.toList == (trn s).toList
theorem palB_back (s : ByteArray) : ((trn s).toList == s.toList) = palB s := by rw [palB]; exact BEq.comm
theorem isTrn_is (s : ByteArray) (hs : s.size ≤ 1000000) (w : World) :
    Calls Tryz.prog 78 #[.string s] w fun e w' => e = .returned (.bool (palB s)) ∧ Below w.heap.size w w' := by
  have hp : (s.toList == (trn s).toList) = palB s := rfl
  obtain ⟨t, ht⟩ : ∃ t, trn s = t := ⟨_, rfl⟩
  have hc := fun w => turned_any s hs w
  rw [ht] at hc hp
  obtain ⟨c, hcc⟩ : ∃ c, palB s = c := ⟨_, rfl⟩
  rw [hcc] at hp ⊢
  have HC := Lib.hid hc
  clear hc ht hcc
  go_enter Tryz.func78, Tryz.ntmps78
  go_wp2_with fail
  refine (HC.out _).mono ?_
  rintro e w1 ⟨rfl, b1⟩
  go_wp2_with fail
  go_ret
  exact ⟨rfl, b1⟩
theorem iPal_yes (s : ByteArray) (h0 : isW (L s) = true) (w : World) :
    Calls Tryz.prog 20 #[.string s] w fun e w' => e = .returned (.bool (palB s)) ∧ Below w.heap.size w w' := by
  have h4 := isW_size h0
  have hs9 : s.size ≤ maxLen := by unfold maxLen; omega
  have H0 := Lib.hid h0
  have HC := Lib.hid (fun w => isTrn_is s (by omega) w)
  clear h0
  obtain ⟨c, hcc⟩ : ∃ c, palB s = c := ⟨_, rfl⟩
  rw [hcc] at HC ⊢
  clear hcc
  go_enter Tryz.func20, Tryz.ntmps20
  go_wp2_with (go_at_call 70; with_reducible refine (isWord_is s _ hs9 H0.out _).mono ?_; rintro e w' ⟨rfl, rfl⟩)
  refine (HC.out _).mono ?_
  rintro e w1 ⟨rfl, b1⟩
  go_wp2_with fail
  go_ret
  exact ⟨rfl, b1⟩
end Go.Proofs.YtbegecoocgkbiaaGreatDoor
