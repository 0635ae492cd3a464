/- Runs of letters, smooth words, both: the walks. No condition but the bounds. -/
import Derived.Test.YtfjmopiofcbpgaaSmo
import Derived.Test.YtfjmopiofcbpgaaHelp
import Derived.BigQuiet
import Derived.RegionTactic
namespace Go.Proofs.Ytfjmopiofcbpgaa
open Go.RowKit
set_option linter.unusedVariables false

theorem rg_step {l : List UInt8} {k : Nat} {b : UInt8} {a : List Int} {p : Option UInt8} {r : List Int} (hd : l.drop k = b :: l.drop (k + 1)) (h : rg a p (l.drop k) = r) : rg (bump (opn a p b)) (some b) (l.drop (k + 1)) = r := by
  rw [← h, hd, rg]
theorem bump_len (a : List Int) : (bump a).length = a.length := by simp [bump]
theorem map_bump (a : List Int) {m : Nat} {v : Int} (hm : a.length = m + 1) (hv : a[m]? = some v) : (a.map (Value.int .i64)).set m (.int .i64 (v + 1)) = (bump a).map (Value.int .i64) := by
  unfold bump
  rw [List.map_set, show a.length - 1 = m by omega, List.getD_eq_getElem?_getD, hv]; rfl
set_option maxRecDepth 4000 in
set_option maxHeartbeats 1000000 in
theorem runs_any (s : ByteArray) (hs : s.size ≤ 1000) (w : World) :
    Calls Try.prog 47 #[.string s] w fun e w' => ∃ A c, e = .returned (.slice A (runsOf (L s)).length c) ∧ Own w' w.heap.size 3 (.slice A (runsOf (L s)).length c) ((runsOf (L s)).map (Value.int .i64)) ∧ Below w.heap.size w w' := by
  obtain ⟨rr, hrr⟩ : ∃ rr, runsOf (L s) = rr := ⟨_, rfl⟩
  have HRR := Lib.hid hrr
  rw [hrr]; clear hrr
  go_enter Try.func47, Try.ntmps47
  go_wp2_with fail
  go_loopw [3, 4, 8] (fun v _ i wr => ∃ k A c a n, k ≤ s.size ∧ i = .int .i64 (k : Nat) ∧ List.length a = n ∧ v = .slice A n c ∧ Own wr w.heap.size 3 (.slice A n c) (a.map (Value.int .i64)) ∧ RunOk a k ∧ (lastOf (L s) k = none → a = []) ∧ (lastOf (L s) k ≠ none → a ≠ []) ∧ rg a (lastOf (L s) k) ((L s).drop k) = rr ∧ Below w.heap.size w wr) (fun _ _ i _ => s.size - (intOf i).toNat)
  case atStart => exact ⟨0, _, _, [], 0, by omega, rfl, rfl, rfl, Own.empty (Nat.le_refl _), ⟨by simp, rfl⟩, fun _ => rfl, fun h => absurd rfl h, HRR.out, (Below.refl _ _).alloc (Nat.le_refl _) _⟩
  case round =>
    obtain ⟨k, A, c, a, n, hk, rfl, hlen, rfl, hown, hrun, hn0, hn1, hg, hbel⟩ := hrel
    have HO := Lib.hid hown
    have HG := Lib.hid hg
    have LENA := Lib.hid hlen
    have HLN : Hid ((a.map (Value.int .i64)).length = n) := by
      show (a.map (Value.int .i64)).length = n
      rw [List.length_map]; exact hlen
    have hnk : n ≤ k := by
      have h1 := sum_ge hrun.pos
      rw [hrun.sum] at h1; omega
    have hn9 : n < 4294967296 := by omega
    clear hown hg hlen
    by_cases hlt : k < s.size
    · obtain ⟨b, hb⟩ : ∃ b, s[k]'hlt = b := ⟨_, rfl⟩
      have hat := L_at s k hlt
      rw [hb] at hat
      have hdd := drop_at s k hlt
      rw [hb] at hdd
      have HG2 := Lib.hid (rg_step hdd HG.out)
      have HAT := Lib.hid hat
      clear hdd hat
      by_cases hk0 : k = 0
      · subst hk0
        go_wp2_with fail
        go_quiet (fail)
        -- the run begins: one cell more
        have hok := hrun.step (b := b) hn0 hn1
        rw [show opn a (lastOf (L s) 0) b = a ++ [0] from by unfold opn; rw [if_neg (by intro h; cases h)]] at hok HG2
        have hown0 := HO.out.dr ((Dr.refl _).drewN nq)
        have HO1 := Lib.hid hown0; clear hown0
        have hbel1 := hbel.trans ((Dr.refl _).drewN nq).below
        have hsz1 := hbel1.size
        go_wp2_with (at_builtin; refine wp_append1 rfl (.tmp 23) (.tmp 24) 25 rfl _ 8 Try.underlying25 info_int rfl rfl HO1.out _ rfl rfl n HLN.out hn9 (by decide) hsz1 ?_)
        intro A' c' w2 hown2 hbel3 hsz2
        have hbel2 := hbel1.trans hbel3
        rw [show a.map (Value.int .i64) ++ [Value.int .i64 0] = (a ++ [0]).map (Value.int .i64) from by simp] at hown2
        have hl2 : (a ++ [0]).length = n + 1 := by rw [List.length_append, LENA.out]; rfl
        obtain ⟨g, rfl, hBg, hgs, hcell, hfr, hst⟩ := hown2.store (k := n) (by rw [List.length_map, hl2]; omega)
        have hv : (a ++ [(0 : Int)])[n]? = some 0 := by rw [← LENA.out, List.getElem?_append_right (Nat.le_refl _), Nat.sub_self]; rfl
        rw [map_at (Value.int .i64) hv] at hcell
        have hs1 := hst (.int .i64 1)
        rw [show ((a ++ [(0 : Int)]).map (Value.int .i64)).set n (.int .i64 1) = (bump (a ++ [0])).map (Value.int .i64) from map_bump _ hl2 hv] at hs1
        have HST := Lib.hid hs1
        have HL2 := Lib.hid hl2
        clear hst hs1 hown2 hv hl2
        go_wp2_with fail
        go_roundw
        case rel =>
          refine ⟨0 + 1, _, _, _, _, by omega, by go_num, (bump_len _).trans HL2.out, rfl, HST.out.1.dr (Dr.refl _), hok.1, ?_, ?_, ?_, ?_⟩
          · intro h; rw [lastOf_succ, HAT.out] at h; cases h
          · intro _; exact hok.2
          · rw [lastOf_succ, HAT.out]; exact HG2.out
          · exact hbel2.trans HST.out.2.1
        case measure => simp [intOf]; omega
      · have hk0b : ((k : Int) == 0) = false := by simp; omega
        have hk1 : k - 1 < s.size := by omega
        obtain ⟨b', hb'⟩ : ∃ b', s[k - 1]'hk1 = b' := ⟨_, rfl⟩
        have hla : lastOf (L s) k = some b' := by rw [lastOf, if_neg hk0, L_at s (k - 1) hk1, hb']
        by_cases hbb : b' = b
        · have ht : ((b.toNat : Int) != (b'.toNat : Int)) = false := by rw [hbb]; simp
          have hne := hn1 (by rw [hla]; exact fun h => by cases h)
          have hop : opn a (lastOf (L s) k) b = a := by rw [opn, hla, if_pos (by rw [hbb])]
          have hok := hrun.step (b := b) hn0 hn1
          rw [hop] at hok HG2
          obtain ⟨m, rfl⟩ : ∃ m, n = m + 1 := ⟨n - 1, by have := LENA.out; cases a with | nil => exact absurd rfl hne | cons x y => simp at this; omega⟩
          obtain ⟨v, hv⟩ := some_of_lt (l := a) (k := m) (by rw [LENA.out]; omega)
          have hvm := List.mem_of_getElem? hv
          have hv1 := hrun.pos v hvm
          have hv2 := mem_le hrun.pos hvm
          rw [hrun.sum] at hv2
          have hv3 : v ≤ 1000 := by omega
          obtain ⟨g, rfl, hBg, hgs, hcell, hfr, hst⟩ := HO.out.store (k := m) (by rw [HLN.out]; omega)
          rw [map_at (Value.int .i64) hv] at hcell
          have hst2 := fun nq => (HO.out.dr ((Dr.refl wr).drewN nq)).store (k := m) (by rw [HLN.out]; omega)
          have hmb := map_bump a LENA.out hv
          have HMB := Lib.hid hmb
          have HS2 := Lib.hid hst2
          clear hst hst2 hmb hv hvm hv2 hne hop hla hbb
          go_wp2_with fail
          go_quiet (fail)
          go_wp2_with fail
          obtain ⟨g', hg', _, _, _, _, hst⟩ := HS2.out nq
          injection hg' with hg'
          injection hg' with hg'
          subst hg'
          have hs1 := hst (.int .i64 (v + 1))
          rw [HMB.out] at hs1
          have HST := Lib.hid hs1
          have hbel2 := hbel.trans ((Dr.refl wr).drewN nq).below
          have HL2 := LENA
          clear hst hs1
          try go_roundw
          case rel =>
            refine ⟨k + 1, _, _, _, _, by omega, by go_num, (bump_len _).trans HL2.out, rfl, HST.out.1.dr (Dr.refl _), hok.1, ?_, ?_, ?_, ?_⟩
            · intro h; rw [lastOf_succ, HAT.out] at h; cases h
            · intro _; exact hok.2
            · rw [lastOf_succ, HAT.out]; exact HG2.out
            · exact hbel2.trans HST.out.2.1
          case measure => simp [intOf]; omega
        · have ht : ((b.toNat : Int) != (b'.toNat : Int)) = true := by rw [bne_iff_ne]; intro h; apply hbb; apply UInt8.toNat_inj.1; omega
          have hnn : lastOf (L s) k ≠ some b := by rw [hla]; intro h; injection h with h; exact hbb h
          have HNN := Lib.hid hnn
          clear hbb hla hnn
          go_wp2_with fail
          go_quiet (fail)
          -- the run begins: one cell more
          have hok := hrun.step (b := b) hn0 hn1
          rw [show opn a (lastOf (L s) k) b = a ++ [0] from by unfold opn; rw [if_neg HNN.out]] at hok HG2
          have hown0 := HO.out.dr ((Dr.refl _).drewN nq)
          have HO1 := Lib.hid hown0; clear hown0
          have hbel1 := hbel.trans ((Dr.refl _).drewN nq).below
          have hsz1 := hbel1.size
          go_wp2_with (at_builtin; refine wp_append1 rfl (.tmp 23) (.tmp 24) 25 rfl _ 8 Try.underlying25 info_int rfl rfl HO1.out _ rfl rfl n HLN.out hn9 (by decide) hsz1 ?_)
          intro A' c' w2 hown2 hbel3 hsz2
          have hbel2 := hbel1.trans hbel3
          rw [show a.map (Value.int .i64) ++ [Value.int .i64 0] = (a ++ [0]).map (Value.int .i64) from by simp] at hown2
          have hl2 : (a ++ [0]).length = n + 1 := by rw [List.length_append, LENA.out]; rfl
          obtain ⟨g, rfl, hBg, hgs, hcell, hfr, hst⟩ := hown2.store (k := n) (by rw [List.length_map, hl2]; omega)
          have hv : (a ++ [(0 : Int)])[n]? = some 0 := by rw [← LENA.out, List.getElem?_append_right (Nat.le_refl _), Nat.sub_self]; rfl
          rw [map_at (Value.int .i64) hv] at hcell
          have hs1 := hst (.int .i64 1)
          rw [show ((a ++ [(0 : Int)]).map (Value.int .i64)).set n (.int .i64 1) = (bump (a ++ [0])).map (Value.int .i64) from map_bump _ hl2 hv] at hs1
          have HST := Lib.hid hs1
          have HL2 := Lib.hid hl2
          clear hst hs1 hown2 hv hl2
          go_wp2_with fail
          go_roundw
          case rel =>
            refine ⟨k + 1, _, _, _, _, by omega, by go_num, (bump_len _).trans HL2.out, rfl, HST.out.1.dr (Dr.refl _), hok.1, ?_, ?_, ?_, ?_⟩
            · intro h; rw [lastOf_succ, HAT.out] at h; cases h
            · intro _; exact hok.2
            · rw [lastOf_succ, HAT.out]; exact HG2.out
            · exact hbel2.trans HST.out.2.1
          case measure => simp [intOf]; omega
    · have hkn : k = s.size := by omega
      have h0 : (L s).drop k = [] := drop_end s k hlt
      have hfin : a = rr := by rw [← HG.out, h0]; rfl
      subst hfin
      rw [← LENA.out] at HO ⊢
      clear h0 hkn
      go_wp2_with fail
      go_ret
      exact ⟨A, c, rfl, HO.out, hbel⟩
end Go.Proofs.Ytfjmopiofcbpgaa
