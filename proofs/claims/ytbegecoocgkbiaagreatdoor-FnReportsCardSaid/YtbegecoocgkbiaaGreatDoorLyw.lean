/- Lyndon parts, both; PartsLine, both. Asks the shelf's text. No condition but the bounds. -/
import Derived.Test.YtbegecoocgkbiaaGreatDoorLys
namespace Go.Proofs.YtbegecoocgkbiaaGreatDoor
open Go.RowKit
set_option linter.unusedVariables false

/-- The parts of a word. -/
noncomputable def ptsV (s : ByteArray) : List ByteArray := if isW (L s) = true then prts s 0 else []
set_option maxRecDepth 4000 in
set_option maxHeartbeats 2000000 in
theorem iPts_yes (s : ByteArray) (h0 : isW (L s) = true) (w : World) :
    Calls Tryz.prog 41 #[.string s] w fun e w' => ∃ A c, e = .returned (.slice A (prts s 0).length c) ∧ Own w' w.heap.size 9 (.slice A (prts s 0).length c) ((prts s 0).map Value.string) ∧ Below w.heap.size w w' := by
  have h4 := isW_size h0
  have hs9 : s.size ≤ maxLen := by unfold maxLen; omega
  obtain ⟨rr, hrr⟩ : ∃ rr, prts s 0 = rr := ⟨_, rfl⟩
  rw [hrr]
  have H0 := Lib.hid h0; have HRR := Lib.hid hrr
  clear h0 hrr
  go_enter Tryz.func41, Tryz.ntmps41
  go_wp2_with (go_at_call 70; with_reducible refine (isWord_is s _ hs9 H0.out _).mono ?_; rintro e w' ⟨rfl, rfl⟩)
  go_loopw [0, 3, 4, 5, 6] (fun x v _ _ _ wr => ∃ a m g c : Nat, ∃ acc : List ByteArray, ∃ y : ByteArray, a ≤ s.size ∧ m ≤ a ∧ x = .string y ∧ y = s.extract a s.size ∧ v = .slice (some ⟨g, 0, none⟩) m c ∧ acc.length = m ∧ acc ++ prts s a = rr ∧ Own wr w.heap.size 9 (.slice (some ⟨g, 0, none⟩) m c) (acc.map Value.string) ∧ Below w.heap.size w wr) (fun x _ _ _ _ _ => strLen x)
  case atStart => exact ⟨0, 0, w.heap.size, 0, [], s, by omega, by omega, rfl, by apply ba_eq; rw [L_extract, List.drop_zero, List.take_of_length_le (Nat.le_of_eq (L_len s))], rfl, rfl, HRR.out, Own.empty (Nat.le_refl _), (Below.refl _ _).alloc (Nat.le_refl _) _⟩
  case round =>
    obtain ⟨a, m, g, c, acc, y, ha, hma, rfl, hy, rfl, hacc, hg, hown, hbel⟩ := hrel
    have hyz : y.size = s.size - a := by rw [hy, ext_size s a s.size (Nat.le_refl _)]
    have HY := Lib.hid hy; have HYZ := Lib.hid hyz
    have HG := Lib.hid hg; have HO := Lib.hid hown; have HA := Lib.hid hacc
    clear hg hown hacc hy
    by_cases hlt : a < s.size
    · have hne : y.toList.isEmpty = false := by
        rw [ByteArray.toList_eq]
        cases hc : y.data.toList with
        | nil => have := L_len y; rw [L, hc] at this; simp at this; omega
        | cons a b => rfl
      obtain ⟨N, hN⟩ : ∃ N, s.size - a = N := ⟨_, rfl⟩
      have hyN : y.size = N := by omega
      have hat : ∀ k (h : k < y.size), (y[k]'h).toNat = gl s a k := by
        intro k h
        have h3 : ∀ (z : ByteArray) (hz : z = y) (h4 : k < z.size), (z[k]'h4).toNat = (y[k]'h).toNat := fun z hz h4 => by subst hz; rfl
        rw [← h3 (s.extract a s.size) HY.out.symm (by rw [← HY.out]; exact h)]
        exact ext_at s a k (by omega) _
      have HAT := Lib.hid hat
      have HN := Lib.hid hN
      have hyb : y.size ≤ 400 := by omega
      clear hyz hyN hat hN
      go_wp2_with fail
      go_loopw [4, 5] (fun u v w2 => ∃ i k n : Nat, 1 ≤ n ∧ i + n ≤ k ∧ k ≤ i + n ∧ k ≤ y.size ∧ u = .int .i64 i ∧ v = .int .i64 k ∧ Per (gl s a) n k ∧ LynM (gl s a) n ∧ Dr wr w2) (fun _ v _ => y.size - (intOf v).toNat)
      case atStart => exact ⟨0, 1, 1, by omega, by omega, by omega, by rw [HYZ.out]; omega, rfl, rfl, per_one _, lynM_one _, Dr.refl _⟩
      case round =>
        obtain ⟨i, k, n, hn1, hk1, hk2, hky, rfl, rfl, hper, hlyn, hd⟩ := hrel
        have HP := Lib.hid hper; have HL := Lib.hid hlyn
        clear hper hlyn
        by_cases hkl : k < y.size
        · have hiy : i < y.size := by omega
          have hnk : k - n = i := by omega
          obtain ⟨bi, hbi⟩ : ∃ b, y[i]'hiy = b := ⟨_, rfl⟩
          obtain ⟨bk, hbk⟩ : ∃ b, y[k]'hkl = b := ⟨_, rfl⟩
          have hgi : bi.toNat = gl s a i := by rw [← hbi]; exact HAT.out i (by omega)
          have hgk : bk.toNat = gl s a k := by rw [← hbk]; exact HAT.out k hkl
          have hkd : (k : Int) < (y.size : Int) := by omega
          have hid : (i : Int) < (y.size : Int) := by omega
          have HNK := Lib.hid hnk
          rcases Nat.lt_trichotomy bi.toNat bk.toNat with hc | hc | hc
          · have hmore := lynM_more (by omega) (by omega) HP.out HL.out (show gl s a (k - n) < gl s a k by rw [hnk, ← hgi, ← hgk]; exact hc)
            have HMO := Lib.hid hmore
            have hle : (bi.toNat : Int) ≤ (bk.toNat : Int) := by omega
            have hlt2 : (bi.toNat : Int) < (bk.toNat : Int) := by omega
            clear hmore hgi hgk hc hnk
            go_wp2_with fail
            go_quiet (fail)
            go_wp2_with fail
            go_quiet (fail)
            go_wp2_with fail
            go_roundw
            case rel => exact ⟨0, k + 1, k + 1, by omega, by omega, by omega, by omega, rfl, by go_num, fun j h1 h2 => by omega, HMO.out, hd.drewN _⟩
            case measure => simp [intOf]; omega
          · have hpm : Per (gl s a) n (k + 1) := fun j h1 h2 => by
              by_cases hj : j < k
              · exact HP.out j h1 hj
              · have : j = k := by omega
                subst this
                rw [hnk, ← hgi, ← hgk]; exact hc.symm
            have HPM := Lib.hid hpm
            have hbb : bk = bi := (UInt8.toNat_inj.1 hc).symm
            subst hbb
            clear hgi hgk hc hnk hpm
            go_wp2_with fail
            go_quiet (fail)
            go_wp2_with fail
            go_quiet (fail)
            go_wp2_with fail
            refine ⟨⟨i + 1, k + 1, n, by omega, by omega, by omega, by omega, by go_num, by go_num, HPM.out, HL.out, hd.drewN _⟩, ?_⟩
            simp [intOf]; omega
          · have hle : decide ((bi.toNat : Int) ≤ (bk.toNat : Int)) = false := decide_eq_false (by omega)
            have hle2 : decide (bi.toNat ≤ bk.toNat) = false := decide_eq_false (by omega)
            have hstop : k < s.size - a → gl s a k < gl s a (k - n) := fun _ => by rw [hnk, ← hgi, ← hgk]; exact hc
            have HST := Lib.hid hstop
            clear hgi hgk hc hnk hstop
            go_wp2_with fail
            go_quiet (fail)
            have hni : (k : Int) - (i : Int) = (n : Int) := by omega
            have hdq : Dr _ (wr.drewN nq) := hd.drewN nq
            have hsub : ∀ e, e * n + n ≤ k → lng (gl s (a + e * n)) (s.size - (a + e * n)) = n := fun e he => by
              have hcp := lyn_copies (N := s.size - a) (by omega) HP.out HL.out HST.out (by rw [← HYZ.out]; exact hky) e he
              rw [gl_shift] at hcp
              exact lng_is (by omega) (by rw [HYZ.out] at hky; omega) hcp.1 fun l h1 h2 => hcp.2 l h1 (by omega)
            have HSUB := Lib.hid hsub
            have hoq := HO.out.dr hdq
            have HOQ := Lib.hid hoq
            have hbq := hbel.trans hdq.below
            have hka : a + k ≤ s.size := by rw [HYZ.out] at hky; omega
            clear hsub hoq hdq
            go_wp2_with fail
            go_loopw [0, 3, 4] (fun x v u w3 => ∃ e d m3 g3 c3 : Nat, ∃ acc3 : List ByteArray, ∃ y3 : ByteArray, d = e * n ∧ d ≤ k ∧ m3 ≤ a + d ∧ x = .string y3 ∧ y3 = s.extract (a + d) s.size ∧ v = .slice (some ⟨g3, 0, none⟩) m3 c3 ∧ u = .int .i64 ((k : Int) - n - d) ∧ acc3.length = m3 ∧ acc3 ++ prts s (a + d) = rr ∧ Own w3 w.heap.size 9 (.slice (some ⟨g3, 0, none⟩) m3 c3) (acc3.map Value.string) ∧ Below w.heap.size w w3) (fun _ _ u _ => (intOf u + 1).toNat)
            case atStart => exact ⟨0, 0, m, g, c, acc, y, by omega, by omega, by omega, rfl, by rw [HY.out]; rfl, rfl, by congr 1; omega, HA.out, HG.out, HOQ.out, hbq⟩
            case round =>
              obtain ⟨e, d, m3, g3, c3, acc3, y3, hde, hdk, hm3, rfl, hy3, rfl, rfl, hacc3, hg3, hown3, hbel3⟩ := hrel
              have HDE := Lib.hid hde
              have hy3z : y3.size = s.size - (a + d) := by rw [hy3, ext_size s (a + d) s.size (Nat.le_refl _)]
              have HY3 := Lib.hid hy3; have HY3Z := Lib.hid hy3z
              have HO3 := Lib.hid hown3; have HA3 := Lib.hid hacc3; have HG3 := Lib.hid hg3
              clear hde hy3 hown3 hacc3 hg3
              by_cases hge : d + n ≤ k
              · have hln : lng (gl s (a + d)) (s.size - (a + d)) = n := by rw [HDE.out]; exact HSUB.out e (by rw [← HDE.out]; exact hge)
                have hnx := prts_next s (i := a + d) (by omega) hln
                have hx1 : y3.extract 0 n = s.extract (a + d) (a + d + n) := by rw [HY3.out, ext_head s (a + d) n (by omega)]
                have hx2 : y3.extract n y3.size = s.extract (a + d + n) s.size := by rw [HY3.out, ext_tail]
                have HNX := Lib.hid hnx; have HX1 := Lib.hid hx1; have HX2 := Lib.hid hx2
                have hl3 : (acc3.map Value.string).length = m3 := by rw [List.length_map]; exact HA3.out
                have HL3 := Lib.hid hl3
                have hm9 : m3 < 4294967296 := by omega
                have hsz3 := hbel3.size
                have hny : n ≤ y3.size := by omega
                have hi0 : (0 : Int) ≤ (k : Int) - n - d := by omega
                clear hln hnx hx1 hx2 hl3 hy3z
                go_wp2_with (at_builtin; refine wp_append4 rfl (.tmp 45) (.tmp 49) 23 rfl _ 16 Tryz.underlying23 info_string rfl m3 c3 rfl HO3.out _ rfl rfl HL3.out hm9 (by decide) hsz3 ?_)
                intro g4 c4 w4 ha4
                have hown4 := ha4.own
                rw [HX1.out, ← List.map_singleton, ← List.map_append] at hown4
                have HO4 := Lib.hid hown4
                have hbel4 := hbel3.trans ha4.bel
                clear ha4 hown4
                go_wp2_with fail
                go_roundw
                case rel => exact ⟨e + 1, d + n, m3 + 1, g4, c4, acc3 ++ [s.extract (a + d) (a + d + n)], y3.extract n y3.size, by rw [HDE.out, Nat.succ_mul], by omega, by omega, rfl, by rw [HX2.out, Nat.add_assoc], rfl, by congr 1; omega, by rw [List.length_append, HA3.out]; rfl, by rw [← Nat.add_assoc, ← HG3.out, HNX.out, List.append_assoc]; rfl, HO4.out, hbel4⟩
                case measure => simp [intOf]; omega
              · have hi0 : ¬ (0 : Int) ≤ (k : Int) - n - d := by omega
                have hd0 : 0 < d := by omega
                go_wp2_with fail
                go_roundw
                case rel => exact ⟨a + d, m3, g3, c3, acc3, y3, by omega, by omega, rfl, HY3.out, rfl, HA3.out, HG3.out, HO3.out, hbel3⟩
                case measure => simp only [strLen]; rw [HYZ.out]; omega
        · have hkd : decide ((k : Int) < (y.size : Int)) = false := by simp; omega
          have hstop : k < s.size - a → gl s a k < gl s a (k - n) := fun h => absurd (by rw [HYZ.out]; exact h) hkl
          have HST := Lib.hid hstop
          clear hstop
          go_wp2_with fail
          go_quiet (fail)
          have hni : (k : Int) - (i : Int) = (n : Int) := by omega
          have hdq : Dr _ (wr.drewN nq) := hd.drewN nq
          have hsub : ∀ e, e * n + n ≤ k → lng (gl s (a + e * n)) (s.size - (a + e * n)) = n := fun e he => by
            have hcp := lyn_copies (N := s.size - a) (by omega) HP.out HL.out HST.out (by rw [← HYZ.out]; exact hky) e he
            rw [gl_shift] at hcp
            exact lng_is (by omega) (by rw [HYZ.out] at hky; omega) hcp.1 fun l h1 h2 => hcp.2 l h1 (by omega)
          have HSUB := Lib.hid hsub
          have hoq := HO.out.dr hdq
          have HOQ := Lib.hid hoq
          have hbq := hbel.trans hdq.below
          have hka : a + k ≤ s.size := by rw [HYZ.out] at hky; omega
          clear hsub hoq hdq
          go_wp2_with fail
          go_loopw [0, 3, 4] (fun x v u w3 => ∃ e d m3 g3 c3 : Nat, ∃ acc3 : List ByteArray, ∃ y3 : ByteArray, d = e * n ∧ d ≤ k ∧ m3 ≤ a + d ∧ x = .string y3 ∧ y3 = s.extract (a + d) s.size ∧ v = .slice (some ⟨g3, 0, none⟩) m3 c3 ∧ u = .int .i64 ((k : Int) - n - d) ∧ acc3.length = m3 ∧ acc3 ++ prts s (a + d) = rr ∧ Own w3 w.heap.size 9 (.slice (some ⟨g3, 0, none⟩) m3 c3) (acc3.map Value.string) ∧ Below w.heap.size w w3) (fun _ _ u _ => (intOf u + 1).toNat)
          case atStart => exact ⟨0, 0, m, g, c, acc, y, by omega, by omega, by omega, rfl, by rw [HY.out]; rfl, rfl, by congr 1; omega, HA.out, HG.out, HOQ.out, hbq⟩
          case round =>
            obtain ⟨e, d, m3, g3, c3, acc3, y3, hde, hdk, hm3, rfl, hy3, rfl, rfl, hacc3, hg3, hown3, hbel3⟩ := hrel
            have HDE := Lib.hid hde
            have hy3z : y3.size = s.size - (a + d) := by rw [hy3, ext_size s (a + d) s.size (Nat.le_refl _)]
            have HY3 := Lib.hid hy3; have HY3Z := Lib.hid hy3z
            have HO3 := Lib.hid hown3; have HA3 := Lib.hid hacc3; have HG3 := Lib.hid hg3
            clear hde hy3 hown3 hacc3 hg3
            by_cases hge : d + n ≤ k
            · have hln : lng (gl s (a + d)) (s.size - (a + d)) = n := by rw [HDE.out]; exact HSUB.out e (by rw [← HDE.out]; exact hge)
              have hnx := prts_next s (i := a + d) (by omega) hln
              have hx1 : y3.extract 0 n = s.extract (a + d) (a + d + n) := by rw [HY3.out, ext_head s (a + d) n (by omega)]
              have hx2 : y3.extract n y3.size = s.extract (a + d + n) s.size := by rw [HY3.out, ext_tail]
              have HNX := Lib.hid hnx; have HX1 := Lib.hid hx1; have HX2 := Lib.hid hx2
              have hl3 : (acc3.map Value.string).length = m3 := by rw [List.length_map]; exact HA3.out
              have HL3 := Lib.hid hl3
              have hm9 : m3 < 4294967296 := by omega
              have hsz3 := hbel3.size
              have hny : n ≤ y3.size := by omega
              have hi0 : (0 : Int) ≤ (k : Int) - n - d := by omega
              clear hln hnx hx1 hx2 hl3 hy3z
              go_wp2_with (at_builtin; refine wp_append4 rfl (.tmp 45) (.tmp 49) 23 rfl _ 16 Tryz.underlying23 info_string rfl m3 c3 rfl HO3.out _ rfl rfl HL3.out hm9 (by decide) hsz3 ?_)
              intro g4 c4 w4 ha4
              have hown4 := ha4.own
              rw [HX1.out, ← List.map_singleton, ← List.map_append] at hown4
              have HO4 := Lib.hid hown4
              have hbel4 := hbel3.trans ha4.bel
              clear ha4 hown4
              go_wp2_with fail
              go_roundw
              case rel => exact ⟨e + 1, d + n, m3 + 1, g4, c4, acc3 ++ [s.extract (a + d) (a + d + n)], y3.extract n y3.size, by rw [HDE.out, Nat.succ_mul], by omega, by omega, rfl, by rw [HX2.out, Nat.add_assoc], rfl, by congr 1; omega, by rw [List.length_append, HA3.out]; rfl, by rw [← Nat.add_assoc, ← HG3.out, HNX.out, List.append_assoc]; rfl, HO4.out, hbel4⟩
              case measure => simp [intOf]; omega
            · have hi0 : ¬ (0 : Int) ≤ (k : Int) - n - d := by omega
              have hd0 : 0 < d := by omega
              go_wp2_with fail
              go_roundw
              case rel => exact ⟨a + d, m3, g3, c3, acc3, y3, by omega, by omega, rfl, HY3.out, rfl, HA3.out, HG3.out, HO3.out, hbel3⟩
              case measure => simp only [strLen]; rw [HYZ.out]; omega
    · have hfin : acc = rr := by rw [← HG.out, prts_end s (by omega)]; simp
      have hrl : rr.length = m := by rw [← hfin]; exact HA.out
      have hemp : y.toList.isEmpty = true := by rw [ByteArray.toList_eq]; have : y.data.toList = [] := List.eq_nil_of_length_eq_zero (by rw [L_len]; omega); rw [this]; rfl
      rw [hfin] at HO
      have HRL := Lib.hid hrl
      clear hfin hrl hyz
      go_wp2_with fail
      go_ret
      exact ⟨_, c, by rw [HRL.out]; rfl, by rw [HRL.out]; exact HO.out, hbel⟩
end Go.Proofs.YtbegecoocgkbiaaGreatDoor
