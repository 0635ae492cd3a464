/- Return words of the reference; the derived word, both. No condition but the bounds. -/
import Derived.Test.YtfgifbkkclkhiaaRtw
namespace Go.Proofs.Ytfgifbkkclkhiaa
open Go.RowKit
set_option linter.unusedVariables false

def ltr (k : Nat) : UInt8 := UInt8.ofNat (97 + k)
theorem abc_at (k : Nat) (hk : k < 4) : ({ data := #[97, 98, 99, 100] } : ByteArray).extract k (k + 1) = strOf [ltr k] := by
  match k, hk with
  | 0, _ => rfl
  | 1, _ => rfl
  | 2, _ => rfl
  | 3, _ => rfl
theorem abc_ix (k : Nat) (hk : k < 4) : ({ data := #[97, 98, 99, 100] } : ByteArray)[k]'hk = ltr k := by
  match k, hk with
  | 0, _ => rfl
  | 1, _ => rfl
  | 2, _ => rfl
  | 3, _ => rfl
theorem strOf_app (a b : List UInt8) : strOf a ++ strOf b = strOf (a ++ b) := by
  apply bytes_ext
  simp [strOf, ByteArray.data_append]
set_option maxRecDepth 4000 in
set_option maxHeartbeats 2000000 in
theorem l16Words_any (s f : ByteArray) (hs : s.size ≤ maxLen) (hf : f.size ≤ maxLen) (w : World) :
    Calls Try.prog 89 #[.string s, .string f] w fun e w' => ∃ A c A2 c2, e = .returned (.tuple #[.slice A (retA s f).length c, .slice A2 (fsL (retA s f)).length c2]) ∧ Own w' w.heap.size 9 (.slice A (retA s f).length c) ((retA s f).map Value.string) ∧ Own w' w.heap.size 9 (.slice A2 (fsL (retA s f)).length c2) ((fsL (retA s f)).map Value.string) ∧ Below w.heap.size w w' := by
  obtain ⟨a, ha⟩ : ∃ a, plsV s f = a := ⟨_, rfl⟩
  have hpc := sPlacesIn_any s f hs hf w
  rw [ha] at hpc
  have hal : a.length ≤ 401 := by rw [← ha]; exact plsV_len s f
  have hat : ∀ j x, a[j]? = some x → x ≤ s.size := fun j x h => plsV_at (by rw [ha]; exact h)
  have halt : ∀ j x y, a[j]? = some x → a[j + 1]? = some y → x < y := fun j x y h1 h2 => plsV_lt (by rw [ha]; exact h1) (by rw [ha]; exact h2)
  have hra : retA s f = rets s a := by rw [retA, ha]
  obtain ⟨rr, hrr⟩ : ∃ rr, rets s a = rr := ⟨_, rfl⟩
  obtain ⟨r2, hr2⟩ : ∃ r2, fsL rr = r2 := ⟨_, rfl⟩
  rw [hra, hrr, hr2]
  have HRR := Lib.hid hrr; have HR2 := Lib.hid hr2; have HAT := Lib.hid hat; have HLT := Lib.hid halt; have HPC := Lib.hid hpc
  obtain ⟨n, hn⟩ : ∃ n, a.length = n := ⟨_, rfl⟩
  rw [hn] at hal
  have HN := Lib.hid hn
  have hs9 := hs
  unfold maxLen at hs9
  clear hra hrr hr2 hat halt hpc ha hn
  go_enter Try.func89, Try.ntmps89
  go_wp2_with fail
  refine HPC.out.mono ?_
  rw [HN.out]
  rintro e w1 ⟨A1, c1, rfl, hown, b1⟩
  have z1 := b1.size
  have HO1 := Lib.hid hown
  have hall := Own.empty (E := 9) (Nat.le_refl w1.heap.size)
  have hall2 : Own ((w1.alloc (.cells #[] 9)).alloc (.cells #[] 9)) w.heap.size 9 (.slice (some ⟨w1.heap.size, 0, none⟩) 0 0) [] := (hall.lower z1).below ((Below.refl _ _).alloc (Nat.le_refl _) _)
  have honce : Own ((w1.alloc (.cells #[] 9)).alloc (.cells #[] 9)) w.heap.size 9 (.slice (some ⟨w1.heap.size + 1, 0, none⟩) 0 0) [] := by
    have h := Own.empty (w := w1.alloc (.cells #[] 9)) (E := 9) (B := w.heap.size) (by simp; omega)
    simpa using h
  have hat2 : Own ((w1.alloc (.cells #[] 9)).alloc (.cells #[] 9)) w.heap.size 3 (.slice A1 n c1) (natV a) := hown.below (((Below.refl _ _).alloc (Nat.le_refl _) _).alloc (by simp) _)
  have hap1 : Ap (.slice (some ⟨w1.heap.size, 0, none⟩) 0 0) (.slice A1 n c1) := (ap_new hown).symm
  have hap2 : Ap (.slice (some ⟨w1.heap.size + 1, 0, none⟩) 0 0) (.slice A1 n c1) := by
    have h := (ap_new (n := 0) (c := 0) (hown.below ((Below.refl _ _).alloc (Nat.le_refl _) (.cells #[] 9)))).symm
    simpa using h
  have hap3 : Ap (.slice (some ⟨w1.heap.size, 0, none⟩) 0 0) (.slice (some ⟨w1.heap.size + 1, 0, none⟩) 0 0) := by
    have h := ap_new (n := 0) (c := 0) hall
    simpa using h
  have b1' : Below w.heap.size w ((w1.alloc (.cells #[] 9)).alloc (.cells #[] 9)) := b1.trans (((Below.refl _ _).alloc z1 _).alloc (by simp; omega) _)
  have H1 := Lib.hid hall2; have H2 := Lib.hid honce; have H3 := Lib.hid hat2; have H4 := Lib.hid hap1; have H5 := Lib.hid hap2; have H6 := Lib.hid hap3
  clear hown hall hall2 honce hat2 hap1 hap2 hap3 b1
  go_wp2_with fail
  go_loopw [7, 8, 9, 10] (fun v v2 i _ wr => ∃ j k m : Nat, ∃ A c A2 c2, 1 ≤ j ∧ j ≤ k + 1 ∧ k + 1 ≤ j ∧ (j ≤ n ∨ j = 1) ∧ m ≤ k ∧ i = .int .i64 j ∧ v = .slice A k c ∧ v2 = .slice A2 m c2 ∧ (fsL (wdT s a k)).length = m ∧ Own wr w.heap.size 9 (.slice A k c) ((wdT s a k).map Value.string) ∧ Own wr w.heap.size 9 (.slice A2 m c2) ((fsL (wdT s a k)).map Value.string) ∧ Own wr w.heap.size 3 (.slice A1 n c1) (natV a) ∧ Ap (.slice A k c) (.slice A1 n c1) ∧ Ap (.slice A2 m c2) (.slice A1 n c1) ∧ Ap (.slice A k c) (.slice A2 m c2) ∧ Below w.heap.size w wr) (fun _ _ i _ _ => 500 - (intOf i).toNat)
  case atStart => exact ⟨1, 0, 0, _, _, _, _, by omega, by omega, by omega, .inr rfl, by omega, rfl, rfl, rfl, rfl, H1.out, H2.out, H3.out, H4.out, H5.out, H6.out, b1'⟩
  case round =>
    clear b1' z1 HO1 H1 H2 H3 H4 H5 H6
    obtain ⟨j, k, m, A, c, A2, c2, hj1, hjk, hkj, hjn, hmk, rfl, rfl, rfl, hlm, hall, honce, hoa, hap1, hap2, hap3, hbel⟩ := hrel
    have HO := Lib.hid hall; have HO2 := Lib.hid honce; have HOA := Lib.hid hoa; have HAP1 := Lib.hid hap1; have HAP2 := Lib.hid hap2; have HAP3 := Lib.hid hap3; have HLM := Lib.hid hlm
    clear hall honce hoa hap1 hap2 hap3 hlm
    by_cases hlt : j < n
    · obtain ⟨x, hx⟩ := some_of_lt (l := a) (k := k) (by rw [HN.out]; omega)
      obtain ⟨y, hy⟩ := some_of_lt (l := a) (k := k + 1) (by rw [HN.out]; omega)
      have hxy := HLT.out k x y hx hy
      have hys := HAT.out (k + 1) y hy
      obtain ⟨ga, rfl, _, _, hcx, _, _⟩ := HOA.out.store (k := k) (by rw [natV_length, HN.out]; omega)
      obtain ⟨ga', hga, _, _, hcy, _, _⟩ := HOA.out.store (k := k + 1) (by rw [natV_length, HN.out]; omega)
      injection hga with hga
      injection hga with hga
      subst hga
      rw [natV_at hx] at hcx
      rw [natV_at hy] at hcy
      have hjq : k + 1 = j := by omega
      have m1 : IntKind.i64.wrap ((j : Int) - 1) = (k : Int) := by rw [IntWalk.i64_in _ (by omega)]; omega
      have m2 : (k : Int) < (n : Int) := by omega
      rw [hjq] at hcy
      have HW := Lib.hid (wdT_succ (w := s) hx hy)
      have hfs : fsL (wdT s a (k + 1)) = fsS (fsL (wdT s a k)) (s.extract x y) := by rw [wdT_succ hx hy, fsL_snoc]
      have HFS := Lib.hid hfs
      have g1 : (x : Int) ≤ (y : Int) := by omega
      have g2 : (y : Int) ≤ (s.size : Int) := by omega
      have hl3 : ((wdT s a k).map Value.string).length = k := by rw [List.length_map, wdT_len]
      have HL3 := Lib.hid hl3
      have hk9 : k < 4294967296 := by omega
      clear hx hy hjq hl3 hfs
      go_wp2_with fail
      go_quiet (fail)
      have HOQ := Lib.hid (HO.out.dr ((Dr.refl _).drewN nq))
      have HOQ2 := Lib.hid (HO2.out.dr ((Dr.refl _).drewN nq))
      have HOQA := Lib.hid (HOA.out.dr ((Dr.refl _).drewN nq))
      have hbelq := hbel.trans ((Dr.refl _).drewN nq).below
      have hsz := hbelq.size
      clear m1 m2 hcx hcy
      go_wp2_with (at_builtin; refine wp_append2 rfl (.tmp 33) (.tmp 35) 22 rfl _ 16 Try.underlying22 info_string rfl rfl HOQ.out _ rfl rfl k HL3.out hk9 (by decide) hsz ?_)
      intro A' c' w3 hown3 hbel3 hsz3 hbes3
      rw [show (wdT s a k).map Value.string ++ [Value.string (s.extract x y)] = (wdT s a (k + 1)).map Value.string from by rw [HW.out, List.map_append]; rfl] at hown3
      have HO3 := Lib.hid hown3
      have HB1 := Lib.hid (hbes3 _ _ _ _ HOQ2.out HAP3.out)
      have HB2 := Lib.hid (hbes3 _ _ _ _ HOQA.out HAP1.out)
      have hbel4 := hbelq.trans hbel3
      clear hown3 hbes3
      have hct := l06At_any (fsL (wdT s a k)) (s.extract x y) A2 c2 _ w3 (by rw [HLM.out]; omega) HB1.out.1.reads
      rw [HLM.out] at hct
      obtain ⟨z, hz⟩ : ∃ z, atIx (fsL (wdT s a k)) (s.extract x y) = z := ⟨_, rfl⟩
      rw [hz] at hct
      have hzh : hasS (fsL (wdT s a k)) (s.extract x y) = decide (0 ≤ z) := by rw [← hz]; rfl
      have HZH := Lib.hid hzh; have HCT := Lib.hid hct
      clear hct hz hzh
      by_cases hz0 : 0 ≤ z
      · have ht : fsL (wdT s a (k + 1)) = fsL (wdT s a k) := by rw [HFS.out, fsS, HZH.out, if_pos (decide_eq_true hz0)]
        have HT := Lib.hid ht
        clear ht
        go_wp2_with fail
        refine HCT.out.mono ?_
        rintro e w4 ⟨rfl, d4⟩
        go_wp2_with fail
        go_roundw
        case rel => exact ⟨j + 1, k + 1, m, A', c', A2, c2, by omega, by omega, by omega, .inl (by omega), by omega, by go_num, rfl, rfl, by rw [HT.out]; exact HLM.out, HO3.out.dr d4, by rw [HT.out]; exact HB1.out.1.dr d4, HB2.out.1.dr d4, HB2.out.2, HAP2.out, HB1.out.2, hbel4.trans d4.below⟩
        case measure => simp [intOf]; omega
      · have ht : fsL (wdT s a (k + 1)) = fsL (wdT s a k) ++ [s.extract x y] := by rw [HFS.out, fsS, HZH.out, decide_eq_false hz0]; rfl
        have HT := Lib.hid ht
        have hzb : decide (z < 0) = true := decide_eq_true (by omega)
        have hl5 : ((fsL (wdT s a k)).map Value.string).length = m := by rw [List.length_map, HLM.out]
        have HL5 := Lib.hid hl5
        have hm9 : m < 4294967296 := by omega
        clear ht hl5
        go_wp2_with fail
        refine HCT.out.mono ?_
        rintro e w4 ⟨rfl, d4⟩
        have hbel5 := hbel4.trans d4.below
        have hsz5 := hbel5.size
        have HQ2 := Lib.hid (HB1.out.1.dr d4)
        go_wp2_with (at_builtin; refine wp_append2 rfl (.tmp 41) (.tmp 43) 22 rfl _ 16 Try.underlying22 info_string rfl rfl HQ2.out _ rfl rfl m HL5.out hm9 (by decide) hsz5 ?_)
        intro A6 c6 w6 hown6 hbel6 hsz6 hbes6
        rw [← List.map_singleton, ← List.map_append, ← HT.out] at hown6
        have HO6 := Lib.hid hown6
        have HB3 := Lib.hid (hbes6 _ _ _ _ (HO3.out.dr d4) HB1.out.2.symm)
        have HB4 := Lib.hid (hbes6 _ _ _ _ (HB2.out.1.dr d4) HAP2.out)
        clear hown6 hbes6
        go_wp2_with fail
        go_roundw
        case rel => exact ⟨j + 1, k + 1, m + 1, A', c', A6, c6, by omega, by omega, by omega, .inl (by omega), by omega, by go_num, rfl, rfl, by rw [HT.out, List.length_append, HLM.out]; rfl, HB3.out.1, HO6.out, HB4.out.1, HB2.out.2, HB4.out.2, HB3.out.2.symm, hbel5.trans hbel6⟩
        case measure => simp [intOf]; omega
    · have hkn : k = n - 1 := by omega
      have hfin : wdT s a k = rr := by rw [← HRR.out, rets, HN.out, hkn]
      have hrl : rr.length = k := by rw [← hfin, wdT_len]
      have hr2 : fsL (wdT s a k) = r2 := by rw [hfin, HR2.out]
      have hr2l : r2.length = m := by rw [← hr2]; exact HLM.out
      have HF := Lib.hid hfin; have HRL := Lib.hid hrl; have HF2 := Lib.hid hr2; have HRL2 := Lib.hid hr2l
      have hjb : decide ((j : Int) < (n : Int)) = false := by simp; omega
      clear hfin hrl hkn hr2 hr2l
      go_wp2_with fail
      go_ret2
      exact ⟨A, c, A2, c2, by rw [HRL.out, HRL2.out]; rfl, by rw [HRL.out, ← HF.out]; exact HO.out, by rw [HRL2.out, ← HF2.out]; exact HO2.out, hbel⟩
theorem sReturnWords_any (s f : ByteArray) (hs : s.size ≤ maxLen) (hf : f.size ≤ maxLen) (w : World) :
    Calls Try.prog 64 #[.string s, .string f] w fun e w' => ∃ A c, e = .returned (.slice A (fsL (retA s f)).length c) ∧ Own w' w.heap.size 9 (.slice A (fsL (retA s f)).length c) ((fsL (retA s f)).map Value.string) ∧ Below w.heap.size w w' := by
  go_enter Try.func64, Try.ntmps64
  go_wp2_with fail
  refine (l16Words_any s f hs hf _).mono ?_
  rintro e w1 ⟨A, c, A2, c2, rfl, o1, o2, b1⟩
  have HO := Lib.hid o2; clear o1 o2
  go_wp2_with fail
  go_ret
  exact ⟨A2, c2, rfl, HO.out, b1⟩
end Go.Proofs.Ytfgifbkkclkhiaa
