/- l05Factors: the factors of a word, in order, each once, by insertion. No condition but the bounds. -/
import Derived.Test.YtpfoednhnbljdaaDoorIns
namespace Go.Proofs.YtpfoednhnbljdaaDoor
open Go.RowKit
set_option linter.unusedVariables false

def fcT (s : ByteArray) (n k : Nat) : List ByteArray := (List.range k).map fun i => s.extract i (i + n)
/-- The factors of n letters, one after the other. -/
def fc (s : ByteArray) (n : Nat) : List ByteArray := fcT s n (s.size + 1 - n)
theorem fcT_len (s : ByteArray) (n k : Nat) : (fcT s n k).length = k := by simp [fcT]
theorem fcT_succ (s : ByteArray) (n k : Nat) : fcT s n (k + 1) = fcT s n k ++ [s.extract k (k + n)] := by
  unfold fcT; rw [List.range_succ, List.map_append]; rfl
theorem insL_snoc (l : List ByteArray) (x : ByteArray) : insL (l ++ [x]) = insB (insL l) x := by simp [insL]
theorem fcT_size {s : ByteArray} {n k : Nat} {x : ByteArray} (h : x ∈ fcT s n k) : x.size ≤ s.size := by
  unfold fcT at h
  obtain ⟨i, _, rfl⟩ := List.mem_map.1 h
  rw [ByteArray.size_extract]; omega
set_option maxRecDepth 4000 in
set_option maxHeartbeats 1000000 in
theorem l05Factors_any (s : ByteArray) (n : Nat) (hs : s.size ≤ 400) (hn : n ≤ 1000) (w : World) :
    Calls Tryd.prog 66 #[.string s, .int .i64 n] w fun e w' => ∃ g c, e = .returned (.slice (some ⟨g, 0, none⟩) (insL (fc s n)).length c) ∧ StrAt w' g c (insL (fc s n)) ∧ Below w.heap.size w w' := by
  obtain ⟨r, hr⟩ : ∃ r, insL (fc s n) = r := ⟨_, rfl⟩
  have HR := Lib.hid hr
  rw [hr]; clear hr
  go_enter Tryd.func66, Tryd.ntmps66
  go_wp2_with fail
  go_loopw [5, 6] (fun v i wr => ∃ k m g c, k ≤ s.size + 1 - n ∧ m ≤ k ∧ i = .int .i64 (k : Nat) ∧ (insL (fcT s n k)).length = m ∧ v = .slice (some ⟨g, 0, none⟩) m c ∧ StrAt wr g c (insL (fcT s n k)) ∧ Below w.heap.size w wr) (fun _ i _ => s.size + 1 - (intOf i).toNat)
  case atStart =>
    refine ⟨0, 0, w.heap.size, 0, by omega, by omega, rfl, rfl, rfl, ⟨Nat.le_refl _, Nat.zero_le _, by simp, fun j s h => ?_⟩, (Below.refl _ _).alloc (Nat.le_refl _) _⟩
    simp [fcT, insL] at h
  case round =>
    obtain ⟨k, m, g, c, hk, hmk, rfl, hlm, rfl, hst, hbel⟩ := hrel
    have HST := Lib.hid hst; have HLM := Lib.hid hlm; clear hst hlm
    by_cases hlt : k + n ≤ s.size
    · have hci := l05Insert_any (insL (fcT s n k)) (s.extract k (k + n)) g c
      rw [HLM.out, ← insL_snoc, ← fcT_succ] at hci
      have HCI := Lib.hid (hci _ (by omega) HST.out)
      have hl1 : (insL (fcT s n (k + 1))).length ≤ k + 1 := by have := insL_len (fcT s n (k + 1)); rw [fcT_len] at this; exact this
      obtain ⟨m2, hm2⟩ : ∃ m2, (insL (fcT s n (k + 1))).length = m2 := ⟨_, rfl⟩
      rw [hm2] at hl1
      have HM2 := Lib.hid hm2
      clear hci hm2
      go_wp2_with fail
      refine HCI.out.mono ?_
      rw [HM2.out]
      rintro e w2 ⟨g2, c2, rfl, hst2, b2⟩
      have HST2 := Lib.hid hst2; clear hst2
      go_wp2_with fail
      go_roundw
      case rel => exact ⟨k + 1, m2, g2, c2, by omega, by omega, by go_num, HM2.out, rfl, HST2.out, hbel.trans (b2.mono hbel.size)⟩
      case measure => simp [intOf]; omega
    · have hkn : k = s.size + 1 - n := by omega
      have hfin : insL (fcT s n k) = r := by rw [hkn]; exact HR.out
      have hrl : r.length = m := by rw [← hfin]; exact HLM.out
      have HF := Lib.hid hfin; have HRL := Lib.hid hrl
      have hlt2 : ¬ ((k : Int) + n ≤ s.size) := by omega
      clear hkn hfin hrl
      go_wp2_with fail
      go_ret
      exact ⟨g, c, by rw [HRL.out]; rfl, by rw [← HF.out]; exact HST.out, hbel⟩
end Go.Proofs.YtpfoednhnbljdaaDoor
