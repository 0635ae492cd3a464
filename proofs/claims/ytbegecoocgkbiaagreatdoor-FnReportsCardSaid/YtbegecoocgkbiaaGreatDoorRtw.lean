/- Return words, both: the walks. No condition but the bounds. -/
import Derived.Test.YtbegecoocgkbiaaGreatDoorRet
import Derived.Test.YtbegecoocgkbiaaGreatDoorM16
namespace Go.Proofs.YtbegecoocgkbiaaGreatDoor
open Go.RowKit
set_option linter.unusedVariables false

theorem plsV_eq {s f : ByteArray} (h : plOk s f = true) : plsV s f = pls s f := by rw [plsV, if_pos h]
theorem plsV_len (s f : ByteArray) : (plsV s f).length ≤ 401 := by
  unfold plsV
  split
  · rename_i h
    unfold plOk at h
    simp only [Bool.and_eq_true] at h
    have := pls_len s f
    have := isW_size h.1.1
    omega
  · simp
theorem plsV_at {s f : ByteArray} {j x : Nat} (h : (plsV s f)[j]? = some x) : x ≤ s.size := by
  unfold plsV at h
  split at h
  · exact pls_at h
  · simp at h
theorem plsV_lt {s f : ByteArray} {j x y : Nat} (hx : (plsV s f)[j]? = some x) (hy : (plsV s f)[j + 1]? = some y) : x < y := by
  unfold plsV at hx hy
  split at hx
  · rename_i h
    rw [if_pos h] at hy
    exact pls_lt hx hy
  · simp at hx
/-- All return words, one after the other. -/
def retA (s f : ByteArray) : List ByteArray := rets s (plsV s f)
theorem retA_len (s f : ByteArray) : (retA s f).length ≤ 400 := by
  have := plsV_len s f
  unfold retA rets; rw [wdT_len]; omega
theorem retA_size {s f x : ByteArray} (h : x ∈ retA s f) : x.size ≤ s.size := wdT_size h
set_option maxRecDepth 4000 in
set_option maxHeartbeats 1000000 in
theorem returnsOf_any (s f : ByteArray) (hok : plOk s f = true) (w : World) :
    Calls Tryz.prog 146 #[.string s, .string f] w fun e w' => ∃ A c, e = .returned (.slice A (retA s f).length c) ∧ Own w' w.heap.size 9 (.slice A (retA s f).length c) ((retA s f).map Value.string) ∧ Below w.heap.size w w' := by
  have hok2 := hok
  unfold plOk at hok2
  simp only [Bool.and_eq_true, Bool.not_eq_true', decide_eq_false_iff_not] at hok2
  have hs4 := isW_size hok2.1.1
  have hf4 := isW_size hok2.1.2
  have hf1 : 1 ≤ f.size := by have := hok2.2; omega
  obtain ⟨a, ha⟩ : ∃ a, plsV s f = a := ⟨_, rfl⟩
  have hpc := placesIn_any s f (by omega) (by omega) hf1 (w.alloc (.cells #[] 9))
  rw [← plsV_eq hok, ha] at hpc
  have hal : a.length ≤ 401 := by rw [← ha]; exact plsV_len s f
  have hat : ∀ j x, a[j]? = some x → x ≤ s.size := fun j x h => plsV_at (by rw [ha]; exact h)
  have halt : ∀ j x y, a[j]? = some x → a[j + 1]? = some y → x < y := fun j x y h1 h2 => plsV_lt (by rw [ha]; exact h1) (by rw [ha]; exact h2)
  have hra : retA s f = rets s a := by rw [retA, ha]
  obtain ⟨rr, hrr⟩ : ∃ rr, rets s a = rr := ⟨_, rfl⟩
  rw [hra, hrr]
  have HRR := Lib.hid hrr; have HAT := Lib.hid hat; have HLT := Lib.hid halt; have HPC := Lib.hid hpc
  obtain ⟨n, hn⟩ : ∃ n, a.length = n := ⟨_, rfl⟩
  rw [hn] at hal
  have HN := Lib.hid hn
  clear hra hrr hat halt hpc ha hok hok2 hn
  go_enter Tryz.func146, Tryz.ntmps146
  go_wp2_with fail
  refine HPC.out.mono ?_
  rw [HN.out]
  rintro e w1 ⟨A1, c1, rfl, hown, b1⟩
  have b1' : Below w.heap.size w w1 := ((Below.refl _ _).alloc (Nat.le_refl _) _).trans (b1.mono (by simp))
  have hz1 : w.heap.size < w1.heap.size := by have := b1.size; simp at this; omega
  have HO1 := Lib.hid hown
  have ho0 : Own w1 w.heap.size 9 (.slice (some ⟨w.heap.size, 0, none⟩) 0 0) [] := (Own.empty (Nat.le_refl _)).below b1
  have hap0 : Ap (.slice (some ⟨w.heap.size, 0, none⟩) 0 0) (.slice A1 n c1) := ap_old hown (by simp)
  have HO0 := Lib.hid ho0; have HAP0 := Lib.hid hap0
  clear hown ho0 hap0 b1
  go_wp2_with fail
  go_loopw [5, 7] (fun v i wr => ∃ j k : Nat, ∃ A c, 1 ≤ j ∧ j ≤ k + 1 ∧ k + 1 ≤ j ∧ (j ≤ n ∨ j = 1) ∧ i = .int .i64 j ∧ v = .slice A k c ∧ Own wr w.heap.size 9 (.slice A k c) ((wdT s a k).map Value.string) ∧ Own wr (w.heap.size + 1) 3 (.slice A1 n c1) (natV a) ∧ Ap (.slice A k c) (.slice A1 n c1) ∧ Below w.heap.size w wr) (fun _ i _ => 500 - (intOf i).toNat)
  case atStart => exact ⟨1, 0, _, _, by omega, by omega, by omega, .inr rfl, rfl, rfl, HO0.out, by have := HO1.out; simpa using this, HAP0.out, b1'⟩
  case round =>
    clear b1' hz1
    obtain ⟨j, k, A, c, hj1, hjk, hkj, hjn, rfl, rfl, hown, hoa, hap, hbel⟩ := hrel
    have HO := Lib.hid hown; have HOA := Lib.hid hoa; have HAP := Lib.hid hap
    clear hown hoa hap
    by_cases hlt : j < n
    · obtain ⟨x, hx⟩ := some_of_lt (l := a) (k := k) (by rw [HN.out]; omega)
      obtain ⟨y, hy⟩ := some_of_lt (l := a) (k := k + 1) (by rw [HN.out]; omega)
      have hxy := HLT.out k x y hx hy
      have hys := HAT.out (k + 1) y hy
      obtain ⟨ga, rfl, _, _, hcx, _, _⟩ := HOA.out.store (k := k) (by rw [natV_length, HN.out]; omega)
      obtain ⟨ga', hga, _, _, hcy, _, _⟩ := HOA.out.store (k := k + 1) (by rw [natV_length, HN.out]; omega)
      injection hga with hga
      injection hga with hga
      subst hga
      rw [natV_at hx] at hcx
      rw [natV_at hy] at hcy
      have hjq : k + 1 = j := by omega
      have m1 : IntKind.i64.wrap ((j : Int) - 1) = (k : Int) := by rw [IntWalk.i64_in _ (by omega)]; omega
      have m2 : (k : Int) < (n : Int) := by omega
      rw [hjq] at hcy
      have HW := Lib.hid (wdT_succ (w := s) hx hy)
      have g1 : (x : Int) ≤ (y : Int) := by omega
      have g2 : (y : Int) ≤ (s.size : Int) := by omega
      have hl3 : ((wdT s a k).map Value.string).length = k := by rw [List.length_map, wdT_len]
      have HL3 := Lib.hid hl3
      have hk9 : k < 4294967296 := by omega
      have hsz := hbel.size
      clear hx hy hjq hl3
      go_wp2_with fail
      go_region_law (refine step_append2 rfl (.tmp 18) (.tmp 30) 23 rfl _ 16 Tryz.underlying23 info_string rfl (by rfl) HO.out rfl (by rfl) k HL3.out hk9 (by decide) hsz ?_; intro A3 c3 w4 hown4 hbel4 hsz4 hbes)
      all_goals
        clear m1 m2
        rw [show (wdT s a k).map Value.string ++ [Value.string (s.extract x y)] = (wdT s a (k + 1)).map Value.string from by rw [HW.out, List.map_append]; rfl] at hown4
        have HO4 := Lib.hid hown4
        have hb := hbes _ _ _ _ HOA.out HAP.out
        have HB1 := Lib.hid hb
        clear hown4 hb hbes
        go_wp2_with fail
        go_roundw
        case rel => exact ⟨j + 1, k + 1, A3, c3, by omega, by omega, by omega, .inl (by omega), by go_num, rfl, HO4.out, HB1.out.1, HB1.out.2, hbel.trans hbel4⟩
        case measure => simp [intOf]; omega
    · have hkn : k = n - 1 := by omega
      have hfin : wdT s a k = rr := by rw [← HRR.out, rets, HN.out, hkn]
      have hrl : rr.length = k := by rw [← hfin, wdT_len]
      have HF := Lib.hid hfin; have HRL := Lib.hid hrl
      have hjb : decide ((j : Int) < (n : Int)) = false := by simp; omega
      clear hfin hrl hkn
      go_wp2_with fail
      go_ret
      exact ⟨A, c, by rw [HRL.out]; rfl, by rw [HRL.out, ← HF.out]; exact HO.out, hbel⟩
set_option maxRecDepth 4000 in
set_option maxHeartbeats 1000000 in
theorem firsts_any (l : List ByteArray) (A : Option Addr) (c B : Nat) (w : World) (hB : B ≤ w.heap.size) (hl : l.length ≤ 1000000) (hrd : Rds w B A (l.map Value.string)) :
    Calls Tryz.prog 148 #[.slice A l.length c] w fun e w' => ∃ A' c', e = .returned (.slice A' (fsL l).length c') ∧ Own w' w.heap.size 9 (.slice A' (fsL l).length c') ((fsL l).map Value.string) ∧ Below w.heap.size w w' := by
  obtain ⟨rr, hrr⟩ : ∃ rr, fsL l = rr := ⟨_, rfl⟩
  have HRR := Lib.hid hrr; have HR := Lib.hid hrd
  rw [hrr]; clear hrr hrd
  go_enter Tryz.func148, Tryz.ntmps148
  go_wp2_with fail
  go_loopw [3, 5, 9] (fun v _ i wr => ∃ k n : Nat, ∃ A c, k ≤ l.length ∧ n ≤ k ∧ i = .int .i64 k ∧ (fsL (l.take k)).length = n ∧ v = .slice A n c ∧ Own wr w.heap.size 9 (.slice A n c) ((fsL (l.take k)).map Value.string) ∧ Below w.heap.size w wr) (fun _ _ i _ => l.length - (intOf i).toNat)
  case atStart => exact ⟨0, 0, _, _, by omega, by omega, rfl, rfl, rfl, Own.empty (Nat.le_refl _), (Below.refl _ _).alloc (Nat.le_refl _) _⟩
  case round =>
    obtain ⟨k, n, A1, c1, hk, hnk, rfl, hln, rfl, hown, hbel⟩ := hrel
    have HO := Lib.hid hown; have HLN := Lib.hid hln; clear hown hln
    by_cases hlt : k < l.length
    · obtain ⟨x, hx⟩ := some_of_lt (l := l) (k := k) hlt
      obtain ⟨ad, rfl, hc⟩ := (HR.out.below hbel hB).at_ (map_at Value.string hx)
      have HT := Lib.hid (fsL_take hx)
      have hct := containsS_any (fsL (l.take k)) x A1 c1 _ wr (by rw [HLN.out]; omega) HO.out.reads
      rw [HLN.out] at hct
      clear hx
      cases hh : hasS (fsL (l.take k)) x
      · rw [hh] at hct
        have HCT := Lib.hid hct
        have ht : fsL (l.take (k + 1)) = fsL (l.take k) ++ [x] := by rw [HT.out, fsS, hh]; rfl
        have HT2 := Lib.hid ht
        clear hct hh ht
        have hn9 : n < 4294967296 := by omega
        have hl3 : ((fsL (l.take k)).map Value.string).length = n := by rw [List.length_map, HLN.out]
        have HL3 := Lib.hid hl3; clear hl3
        go_wp2_with fail
        refine HCT.out.mono ?_
        rintro e w2 ⟨rfl, d2⟩
        have HO1 := Lib.hid (HO.out.dr d2)
        have hbel1 := hbel.trans d2.below
        have hsz := hbel1.size
        go_wp2_with (at_builtin; refine wp_append1 rfl (.tmp 17) (.tmp 19) 23 rfl _ 16 Tryz.underlying23 info_string rfl rfl HO1.out _ rfl rfl n HL3.out hn9 (by decide) hsz ?_)
        intro A' c' w3 hown3 hbel3 hsz3
        rw [← List.map_singleton, ← List.map_append, ← HT2.out] at hown3
        have HO3 := Lib.hid hown3; clear hown3
        go_wp2_with fail
        go_roundw
        case rel => exact ⟨k + 1, n + 1, A', c', by omega, by omega, by go_num, by rw [HT2.out, List.length_append, HLN.out]; rfl, rfl, HO3.out, hbel1.trans hbel3⟩
        case measure => simp [intOf]; omega
      · rw [hh] at hct
        have HCT := Lib.hid hct
        have ht : fsL (l.take (k + 1)) = fsL (l.take k) := by rw [HT.out, fsS, hh]; rfl
        have HT2 := Lib.hid ht
        clear hct hh ht
        go_wp2_with fail
        refine HCT.out.mono ?_
        rintro e w2 ⟨rfl, d2⟩
        go_wp2_with fail
        go_roundw
        case rel => exact ⟨k + 1, n, A1, c1, by omega, by omega, by go_num, by rw [HT2.out]; exact HLN.out, rfl, by rw [HT2.out]; exact HO.out.dr d2, hbel.trans d2.below⟩
        case measure => simp [intOf]; omega
    · have hkl : l.take k = l := List.take_of_length_le (by omega)
      rw [hkl, HRR.out] at HO HLN
      clear hkl
      go_wp2_with fail
      go_ret
      exact ⟨A1, c1, by rw [HLN.out]; rfl, by rw [HLN.out]; exact HO.out, hbel⟩
theorem placed_ok {s f : ByteArray} (h : 0 < (plsV s f).length) : plOk s f = true := by
  unfold plsV at h
  split at h
  · assumption
  · simp at h
theorem not_placed {s f : ByteArray} (h : ¬ 0 < (plsV s f).length) : retA s f = [] := by
  have : plsV s f = [] := List.eq_nil_of_length_eq_zero (by omega)
  unfold retA rets; rw [this]; rfl
theorem iReturnWords_any (s f : ByteArray) (hs : s.size ≤ maxLen) (hf : f.size ≤ maxLen) (w : World) :
    Calls Tryz.prog 110 #[.string s, .string f] w fun e w' => ∃ A c, e = .returned (.slice A (fsL (retA s f)).length c) ∧ Own w' w.heap.size 9 (.slice A (fsL (retA s f)).length c) ((fsL (retA s f)).map Value.string) ∧ Below w.heap.size w w' := by
  have hc := isPlaced_any s f hs hf w
  by_cases h : 0 < (plsV s f).length
  · rw [decide_eq_true h] at hc
    have hok := placed_ok h
    have HC := Lib.hid hc; clear hc h
    have hrl := retA_len s f
    go_enter Tryz.func110, Tryz.ntmps110
    go_wp2_with fail
    refine HC.out.mono ?_
    rintro e w1 ⟨rfl, b1⟩
    go_wp2_with fail
    refine (returnsOf_any s f hok _).mono ?_
    rintro e w2 ⟨A2, c2, rfl, o2, b2⟩
    have HO2 := Lib.hid o2; clear o2
    go_wp2_with fail
    refine (firsts_any (retA s f) A2 c2 _ _ (Nat.le_refl _) (by omega) HO2.out.reads).mono ?_
    rintro e w3 ⟨A3, c3, rfl, o3, b3⟩
    have HO3 := Lib.hid o3; clear o3
    go_wp2_with fail
    go_ret
    have z1 := b1.size
    have z2 := b2.size
    exact ⟨A3, c3, rfl, HO3.out.lower (by omega), (b1.trans (b2.mono z1)).trans (b3.mono (by omega))⟩
  · rw [decide_eq_false h] at hc
    have HN := Lib.hid (not_placed h)
    have HC := Lib.hid hc; clear hc h
    go_enter Tryz.func110, Tryz.ntmps110
    go_wp2_with fail
    refine HC.out.mono ?_
    rintro e w1 ⟨rfl, b1⟩
    go_wp2_with fail
    go_ret
    exact ⟨none, 0, by rw [HN.out]; rfl, by rw [HN.out]; exact Own.nil, b1⟩
end Go.Proofs.YtbegecoocgkbiaaGreatDoor
