/- Lyndon parts, both; PartsLine, both. Asks the shelf's text. No condition but the bounds. -/
import Derived.Test.YtnbniccajppgjaaLyp
import Derived.Test.YtnbniccajppgjaaOrd
import Derived.Test.YtnbniccajppgjaaJon
import Derived.Test.YtnbniccajppgjaaApp4
import Derived.BigQuiet
namespace Go.Proofs.Ytnbniccajppgjaa
open Go.RowKit
set_option linter.unusedVariables false

theorem isW_extract {s : ByteArray} (a b : Nat) (h : isW (L s) = true) : isW (L (s.extract a b)) = true := by
  unfold isW at h ⊢
  simp only [Bool.and_eq_true, decide_eq_true_eq] at h ⊢
  rw [L_extract]
  refine ⟨?_, ?_⟩
  · rw [List.all_eq_true] at h ⊢
    exact fun x hx => h.1 x (List.mem_of_mem_take (List.mem_of_mem_drop hx))
  · rw [List.length_drop, List.length_take]; omega
theorem ext_size (s : ByteArray) (a b : Nat) (h : b ≤ s.size) : (s.extract a b).size = b - a := by rw [ByteArray.size_extract, Nat.min_eq_left h]
theorem ext_tail (s : ByteArray) (a n : Nat) : (s.extract a s.size).extract n (s.extract a s.size).size = s.extract (a + n) s.size := by
  apply ba_eq
  rw [L_extract, L_extract, L_extract, ByteArray.size_extract, Nat.min_self]
  rw [List.take_of_length_le (by rw [List.length_drop, List.length_take, L_len]; omega), List.drop_drop]
theorem ext_head (s : ByteArray) (a n : Nat) (h : a + n ≤ s.size) : (s.extract a s.size).extract 0 n = s.extract a (a + n) := by
  apply ba_eq
  rw [L_extract, L_extract, L_extract, List.drop_zero, List.take_of_length_le (l := L s) (by rw [L_len]; omega), List.drop_take]
  congr 1; omega
theorem ext_at (s : ByteArray) (a k : Nat) (h : a + k < s.size) (h2 : k < (s.extract a s.size).size) : ((s.extract a s.size)[k]'h2).toNat = gl s a k := by
  rw [gl, List.getD_eq_getElem?_getD, List.getElem?_eq_getElem (by rw [L_len]; exact h)]
  have : (s.extract a s.size)[k]'h2 = s[a + k] := by rw [ByteArray.getElem_extract]
  rw [this]; rfl
/-- The length of a value that is a string. -/
def strLen : Value → Nat
  | .string s => s.size
  | _ => 0
set_option maxRecDepth 4000 in
set_option maxHeartbeats 1000000 in
theorem sLyn_is (s : ByteArray) (b : Bool) (h0 : isW (L s) = true) (h1 : s.size ≠ 0) (hb : b = true ↔ LynF (gl s 0) s.size) (w : World) :
    Calls Try.prog 77 #[.string s] w fun e w' => e = .returned (.bool b) ∧ Dr w w' := by
  have h4 := isW_size h0
  have hs9 : s.size ≤ maxLen := by unfold maxLen; omega
  have hne : s.toList.isEmpty = false := by
    rw [ByteArray.toList_eq]
    cases hc : s.data.toList with
    | nil => have := L_len s; rw [L, hc] at this; exact absurd this.symm h1
    | cons a b => rfl
  have H0 := Lib.hid h0; have HB := Lib.hid hb
  clear h0 hb
  go_enter Try.func77, Try.ntmps77
  go_wp2_with (go_at_call 45; with_reducible refine (sWordOk_is s _ hs9 H0.out _).mono ?_; rintro e w' ⟨rfl, rfl⟩)
  go_loopw [3] (fun i wr => ∃ k : Nat, 1 ≤ k ∧ k ≤ s.size ∧ i = .int .i64 k ∧ (∀ r, 0 < r → r < k → ltF (gl s 0) (rotF (gl s 0) s.size r) s.size) ∧ Dr w wr) (fun i _ => s.size - (intOf i).toNat)
  case atStart => exact ⟨1, by omega, by omega, rfl, fun r h2 h3 => by omega, Dr.refl _⟩
  case round =>
    obtain ⟨k, hk1, hk, rfl, hg, hd⟩ := hrel
    have HG := Lib.hid hg; clear hg
    by_cases hlt : k < s.size
    · have htl := turn_lt s k hk
      have hgt := gtS_iff (s.extract k s.size ++ s.extract 0 k) s
      unfold gtS at hgt
      have z1 : (s.extract k s.size).size = s.size - k := ext_size s k s.size (Nat.le_refl _)
      have z2 : (s.extract 0 k).size = k := by rw [ext_size s 0 k hk]; omega
      by_cases hltF : ltF (gl s 0) (rotF (gl s 0) s.size k) s.size
      · rw [decide_eq_true (htl.2 hltF)] at hgt
        have hstep : ∀ r, 0 < r → r < k + 1 → ltF (gl s 0) (rotF (gl s 0) s.size r) s.size := fun r h2 h3 => by
          by_cases he : r = k
          · subst he; exact hltF
          · exact HG.out r h2 (by omega)
        have HS := Lib.hid hstep
        simp only [Bool.not_eq_true', Bool.or_eq_false_iff] at hgt
        obtain ⟨hgA, hgB⟩ := hgt
        clear htl hltF hstep
        go_wp2_with fail
        go_quiet (fail)
        go_wp2_with fail
        go_roundw
        case rel => exact ⟨k + 1, by omega, by omega, by go_num, HS.out, hd.drewN nq⟩
        case measure => simp [intOf]; omega
      · rw [decide_eq_false (fun h => hltF (htl.1 h))] at hgt
        have hbf : b = false := by
          cases hb : b
          · rfl
          · exact absurd ((HB.out.1 hb) k (by omega) hlt) hltF
        subst hbf
        simp only [Bool.not_eq_false', Bool.or_eq_true] at hgt
        clear htl hltF
        rcases hgt with hgt | hgt
        all_goals
          go_wp2_with fail
          go_quiet (fail)
          go_wp2_with fail
          go_ret
          exact ⟨rfl, hd.drewN nq⟩
    · have hbt : b = true := HB.out.2 fun r h2 h3 => HG.out r h2 (by omega)
      subst hbt
      go_wp2_with fail
      go_ret
      exact ⟨rfl, hd⟩
/-- The parts of a word. -/
noncomputable def ptsV (s : ByteArray) : List ByteArray := if isW (L s) = true then prts s 0 else []
set_option maxRecDepth 4000 in
set_option maxHeartbeats 1000000 in
theorem sPts_yes (s : ByteArray) (h0 : isW (L s) = true) (w : World) :
    Calls Try.prog 48 #[.string s] w fun e w' => ∃ A c, e = .returned (.slice A (prts s 0).length c) ∧ Own w' w.heap.size 9 (.slice A (prts s 0).length c) ((prts s 0).map Value.string) ∧ Below w.heap.size w w' := by
  have h4 := isW_size h0
  have hs9 : s.size ≤ maxLen := by unfold maxLen; omega
  obtain ⟨rr, hrr⟩ : ∃ rr, prts s 0 = rr := ⟨_, rfl⟩
  rw [hrr]
  have hly := fun (i n : Nat) (b : Bool) (hn : n ≠ 0) (hin : i + n ≤ s.size) (hb : b = true ↔ LynF (gl s i) n) (w : World) =>
    sLyn_is (s.extract i (i + n)) b (isW_extract i (i + n) h0) (by rw [ext_size s i (i + n) hin]; omega) (by rw [hb, ext_size s i (i + n) hin, show i + n - i = n by omega, lynF_extract s i n hin]) w
  have H0 := Lib.hid h0; have HRR := Lib.hid hrr; have HLY := Lib.hid hly
  clear h0 hrr hly
  go_enter Try.func48, Try.ntmps48
  go_wp2_with (go_at_call 45; with_reducible refine (sWordOk_is s _ hs9 H0.out _).mono ?_; rintro e w' ⟨rfl, rfl⟩)
  go_loopw [3, 4, 5] (fun v i _ wr => ∃ a m g c : Nat, ∃ acc : List ByteArray, a ≤ s.size ∧ m ≤ a ∧ i = .int .i64 a ∧ v = .slice (some ⟨g, 0, none⟩) m c ∧ acc.length = m ∧ acc ++ prts s a = rr ∧ Own wr w.heap.size 9 (.slice (some ⟨g, 0, none⟩) m c) (acc.map Value.string) ∧ Below w.heap.size w wr) (fun _ i _ _ => s.size - (intOf i).toNat)
  case atStart => exact ⟨0, 0, w.heap.size, 0, [], by omega, by omega, rfl, rfl, rfl, HRR.out, Own.empty (Nat.le_refl _), (Below.refl _ _).alloc (Nat.le_refl _) _⟩
  case round =>
    obtain ⟨a, m, g, c, acc, ha, hma, rfl, rfl, hacc, hg, hown, hbel⟩ := hrel
    have HG := Lib.hid hg; have HO := Lib.hid hown; have HA := Lib.hid hacc
    clear hg hown hacc
    by_cases hlt : a < s.size
    · obtain ⟨hl1, hl2, hl3, hl4⟩ := lng_ok (gl s a) (s.size - a) (by omega)
      obtain ⟨n0, hn0⟩ : ∃ n0, lng (gl s a) (s.size - a) = n0 := ⟨_, rfl⟩
      rw [hn0] at hl1 hl2 hl3 hl4
      have hnx := prts_next s hlt hn0
      have HNX := Lib.hid hnx; have HL3 := Lib.hid hl3; have HL4 := Lib.hid hl4
      clear hn0 hnx hl3 hl4
      go_wp2_with fail
      go_loopw [5] (fun n w2 => ∃ l : Nat, n0 ≤ l ∧ a + l ≤ s.size ∧ n = .int .i64 l ∧ Dr wr w2) (fun n _ => (intOf n).toNat)
      case atStart => exact ⟨s.size - a, by omega, by omega, by first | rfl | (congr 1; omega), Dr.refl _⟩
      case round =>
        obtain ⟨l, hnl, hal, rfl, hd⟩ := hrel
        by_cases he : l = n0
        · subst he
          have hcl := fun w => HLY.out a l true (by omega) hal (by simp only [true_iff]; exact HL3.out) w
          have HCL := Lib.hid hcl
          have hsz : w.heap.size ≤ wr.heap.size := by have := hbel.size; have := (hd.below (B := 0)).size; omega
          have ho2 := HO.out.dr hd
          have hl3 : (acc.map Value.string).length = m := by rw [List.length_map]; exact HA.out
          have hm9 : m < 4294967296 := by omega
          have HO2 := Lib.hid ho2; have HLL := Lib.hid hl3
          have c1 : (a : Int) + (l : Int) ≤ (s.size : Int) := by omega
          clear hcl ho2 hl3
          go_wp2_with fail
          refine (HCL.out _).mono ?_
          rintro e w3 ⟨rfl, d3⟩
          have HO3 := Lib.hid (HO2.out.dr d3)
          have hsz3 : w.heap.size ≤ w3.heap.size := by have := (d3.below (B := 0)).size; omega
          go_wp2_with (at_builtin; refine wp_append4 rfl (.tmp 28) (.tmp 35) 24 rfl _ 16 Try.underlying24 info_string rfl m c rfl HO3.out _ rfl rfl HLL.out hm9 (by decide) hsz3 ?_)
          intro g4 c4 w4 ha4
          have hown4 := ha4.own
          rw [← List.map_singleton, ← List.map_append] at hown4
          have HO4 := Lib.hid hown4
          have hbel4 := ((hbel.trans hd.below).trans d3.below).trans ha4.bel
          clear ha4 hown4
          go_wp2_with fail
          go_roundw
          case rel => exact ⟨a + l, m + 1, g4, c4, acc ++ [s.extract a (a + l)], by omega, by omega, by go_num, rfl, by rw [List.length_append, HA.out]; rfl, by rw [← HG.out, HNX.out, List.append_assoc]; rfl, HO4.out, hbel4⟩
          case measure => simp [intOf]; omega
        · have hnot := HL4.out l (by omega) (by omega)
          have hcl := fun w => HLY.out a l false (by omega) hal (by simp only [Bool.false_eq_true, false_iff]; exact hnot) w
          have HCL := Lib.hid hcl
          have c1 : (a : Int) + (l : Int) ≤ (s.size : Int) := by omega
          clear hcl hnot
          go_wp2_with fail
          refine (HCL.out _).mono ?_
          rintro e w3 ⟨rfl, d3⟩
          go_wp2_with fail
          go_roundw
          case rel => exact ⟨l - 1, by omega, by omega, by go_num, hd.trans d3⟩
          case measure => simp [intOf]; omega
    · have hfin : acc = rr := by rw [← HG.out, prts_end s (by omega)]; simp
      have hrl : rr.length = m := by rw [← hfin]; exact HA.out
      rw [hfin] at HO
      have HRL := Lib.hid hrl
      clear hfin hrl
      go_wp2_with fail
      go_ret
      exact ⟨_, c, by rw [HRL.out]; rfl, by rw [HRL.out]; exact HO.out, hbel⟩
set_option maxRecDepth 4000 in
set_option maxHeartbeats 2000000 in
theorem iPts_yes (s : ByteArray) (h0 : isW (L s) = true) (w : World) :
    Calls Try.prog 52 #[.string s] w fun e w' => ∃ A c, e = .returned (.slice A (prts s 0).length c) ∧ Own w' w.heap.size 9 (.slice A (prts s 0).length c) ((prts s 0).map Value.string) ∧ Below w.heap.size w w' := by
  have h4 := isW_size h0
  have hs9 : s.size ≤ maxLen := by unfold maxLen; omega
  obtain ⟨rr, hrr⟩ : ∃ rr, prts s 0 = rr := ⟨_, rfl⟩
  rw [hrr]
  have H0 := Lib.hid h0; have HRR := Lib.hid hrr
  clear h0 hrr
  go_enter Try.func52, Try.ntmps52
  go_wp2_with (go_at_call 49; with_reducible refine (isWord_is s _ hs9 H0.out _).mono ?_; rintro e w' ⟨rfl, rfl⟩)
  go_loopw [0, 3, 4, 5, 6] (fun x v _ _ _ wr => ∃ a m g c : Nat, ∃ acc : List ByteArray, ∃ y : ByteArray, a ≤ s.size ∧ m ≤ a ∧ x = .string y ∧ y = s.extract a s.size ∧ v = .slice (some ⟨g, 0, none⟩) m c ∧ acc.length = m ∧ acc ++ prts s a = rr ∧ Own wr w.heap.size 9 (.slice (some ⟨g, 0, none⟩) m c) (acc.map Value.string) ∧ Below w.heap.size w wr) (fun x _ _ _ _ _ => strLen x)
  case atStart => exact ⟨0, 0, w.heap.size, 0, [], s, by omega, by omega, rfl, by apply ba_eq; rw [L_extract, List.drop_zero, List.take_of_length_le (Nat.le_of_eq (L_len s))], rfl, rfl, HRR.out, Own.empty (Nat.le_refl _), (Below.refl _ _).alloc (Nat.le_refl _) _⟩
  case round =>
    obtain ⟨a, m, g, c, acc, y, ha, hma, rfl, hy, rfl, hacc, hg, hown, hbel⟩ := hrel
    have hyz : y.size = s.size - a := by rw [hy, ext_size s a s.size (Nat.le_refl _)]
    have HY := Lib.hid hy; have HYZ := Lib.hid hyz
    have HG := Lib.hid hg; have HO := Lib.hid hown; have HA := Lib.hid hacc
    clear hg hown hacc hy
    by_cases hlt : a < s.size
    · have hne : y.toList.isEmpty = false := by
        rw [ByteArray.toList_eq]
        cases hc : y.data.toList with
        | nil => have := L_len y; rw [L, hc] at this; simp at this; omega
        | cons a b => rfl
      obtain ⟨N, hN⟩ : ∃ N, s.size - a = N := ⟨_, rfl⟩
      have hyN : y.size = N := by omega
      have hat : ∀ k (h : k < y.size), (y[k]'h).toNat = gl s a k := by
        intro k h
        have h3 : ∀ (z : ByteArray) (hz : z = y) (h4 : k < z.size), (z[k]'h4).toNat = (y[k]'h).toNat := fun z hz h4 => by subst hz; rfl
        rw [← h3 (s.extract a s.size) HY.out.symm (by rw [← HY.out]; exact h)]
        exact ext_at s a k (by omega) _
      have HAT := Lib.hid hat
      have HN := Lib.hid hN
      have hyb : y.size ≤ 400 := by omega
      clear hyz hyN hat hN
      go_wp2_with fail
      go_loopw [4, 5] (fun u v w2 => ∃ i k n : Nat, 1 ≤ n ∧ i + n ≤ k ∧ k ≤ i + n ∧ k ≤ y.size ∧ u = .int .i64 i ∧ v = .int .i64 k ∧ Per (gl s a) n k ∧ LynM (gl s a) n ∧ Dr wr w2) (fun _ v _ => y.size - (intOf v).toNat)
      case atStart => exact ⟨0, 1, 1, by omega, by omega, by omega, by rw [HYZ.out]; omega, rfl, rfl, per_one _, lynM_one _, Dr.refl _⟩
      case round =>
        obtain ⟨i, k, n, hn1, hk1, hk2, hky, rfl, rfl, hper, hlyn, hd⟩ := hrel
        have HP := Lib.hid hper; have HL := Lib.hid hlyn
        clear hper hlyn
        by_cases hkl : k < y.size
        · have hiy : i < y.size := by omega
          have hnk : k - n = i := by omega
          obtain ⟨bi, hbi⟩ : ∃ b, y[i]'hiy = b := ⟨_, rfl⟩
          obtain ⟨bk, hbk⟩ : ∃ b, y[k]'hkl = b := ⟨_, rfl⟩
          have hgi : bi.toNat = gl s a i := by rw [← hbi]; exact HAT.out i (by omega)
          have hgk : bk.toNat = gl s a k := by rw [← hbk]; exact HAT.out k hkl
          have hkd : (k : Int) < (y.size : Int) := by omega
          have hid : (i : Int) < (y.size : Int) := by omega
          have HNK := Lib.hid hnk
          rcases Nat.lt_trichotomy bi.toNat bk.toNat with hc | hc | hc
          · have hmore := lynM_more (by omega) (by omega) HP.out HL.out (show gl s a (k - n) < gl s a k by rw [hnk, ← hgi, ← hgk]; exact hc)
            have HMO := Lib.hid hmore
            have hle : (bi.toNat : Int) ≤ (bk.toNat : Int) := by omega
            have hlt2 : (bi.toNat : Int) < (bk.toNat : Int) := by omega
            clear hmore hgi hgk hc hnk
            go_wp2_with fail
            go_quiet (fail)
            go_wp2_with fail
            go_quiet (fail)
            go_wp2_with fail
            go_roundw
            case rel => exact ⟨0, k + 1, k + 1, by omega, by omega, by omega, by omega, rfl, by go_num, fun j h1 h2 => by omega, HMO.out, hd.drewN _⟩
            case measure => simp [intOf]; omega
          · have hpm : Per (gl s a) n (k + 1) := fun j h1 h2 => by
              by_cases hj : j < k
              · exact HP.out j h1 hj
              · have : j = k := by omega
                subst this
                rw [hnk, ← hgi, ← hgk]; exact hc.symm
            have HPM := Lib.hid hpm
            have hbb : bk = bi := (UInt8.toNat_inj.1 hc).symm
            subst hbb
            clear hgi hgk hc hnk hpm
            go_wp2_with fail
            go_quiet (fail)
            go_wp2_with fail
            go_quiet (fail)
            go_wp2_with fail
            refine ⟨⟨i + 1, k + 1, n, by omega, by omega, by omega, by omega, by go_num, by go_num, HPM.out, HL.out, hd.drewN _⟩, ?_⟩
            simp [intOf]; omega
          · have hle : decide ((bi.toNat : Int) ≤ (bk.toNat : Int)) = false := decide_eq_false (by omega)
            have hle2 : decide (bi.toNat ≤ bk.toNat) = false := decide_eq_false (by omega)
            have hstop : k < s.size - a → gl s a k < gl s a (k - n) := fun _ => by rw [hnk, ← hgi, ← hgk]; exact hc
            have HST := Lib.hid hstop
            clear hgi hgk hc hnk hstop
            go_wp2_with fail
            go_quiet (fail)
            have hni : (k : Int) - (i : Int) = (n : Int) := by omega
            have hdq : Dr _ (wr.drewN nq) := hd.drewN nq
            have hsub : ∀ e, e * n + n ≤ k → lng (gl s (a + e * n)) (s.size - (a + e * n)) = n := fun e he => by
              have hcp := lyn_copies (N := s.size - a) (by omega) HP.out HL.out HST.out (by rw [← HYZ.out]; exact hky) e he
              rw [gl_shift] at hcp
              exact lng_is (by omega) (by rw [HYZ.out] at hky; omega) hcp.1 fun l h1 h2 => hcp.2 l h1 (by omega)
            have HSUB := Lib.hid hsub
            have hoq := HO.out.dr hdq
            have HOQ := Lib.hid hoq
            have hbq := hbel.trans hdq.below
            have hka : a + k ≤ s.size := by rw [HYZ.out] at hky; omega
            clear hsub hoq hdq
            go_wp2_with fail
            go_loopw [0, 3, 4] (fun x v u w3 => ∃ e d m3 g3 c3 : Nat, ∃ acc3 : List ByteArray, ∃ y3 : ByteArray, d = e * n ∧ d ≤ k ∧ m3 ≤ a + d ∧ x = .string y3 ∧ y3 = s.extract (a + d) s.size ∧ v = .slice (some ⟨g3, 0, none⟩) m3 c3 ∧ u = .int .i64 ((k : Int) - n - d) ∧ acc3.length = m3 ∧ acc3 ++ prts s (a + d) = rr ∧ Own w3 w.heap.size 9 (.slice (some ⟨g3, 0, none⟩) m3 c3) (acc3.map Value.string) ∧ Below w.heap.size w w3) (fun _ _ u _ => (intOf u + 1).toNat)
            case atStart => exact ⟨0, 0, m, g, c, acc, y, by omega, by omega, by omega, rfl, by rw [HY.out]; rfl, rfl, by congr 1; omega, HA.out, HG.out, HOQ.out, hbq⟩
            case round =>
              obtain ⟨e, d, m3, g3, c3, acc3, y3, hde, hdk, hm3, rfl, hy3, rfl, rfl, hacc3, hg3, hown3, hbel3⟩ := hrel
              have HDE := Lib.hid hde
              have hy3z : y3.size = s.size - (a + d) := by rw [hy3, ext_size s (a + d) s.size (Nat.le_refl _)]
              have HY3 := Lib.hid hy3; have HY3Z := Lib.hid hy3z
              have HO3 := Lib.hid hown3; have HA3 := Lib.hid hacc3; have HG3 := Lib.hid hg3
              clear hde hy3 hown3 hacc3 hg3
              by_cases hge : d + n ≤ k
              · have hln : lng (gl s (a + d)) (s.size - (a + d)) = n := by rw [HDE.out]; exact HSUB.out e (by rw [← HDE.out]; exact hge)
                have hnx := prts_next s (i := a + d) (by omega) hln
                have hx1 : y3.extract 0 n = s.extract (a + d) (a + d + n) := by rw [HY3.out, ext_head s (a + d) n (by omega)]
                have hx2 : y3.extract n y3.size = s.extract (a + d + n) s.size := by rw [HY3.out, ext_tail]
                have HNX := Lib.hid hnx; have HX1 := Lib.hid hx1; have HX2 := Lib.hid hx2
                have hl3 : (acc3.map Value.string).length = m3 := by rw [List.length_map]; exact HA3.out
                have HL3 := Lib.hid hl3
                have hm9 : m3 < 4294967296 := by omega
                have hsz3 := hbel3.size
                have hny : n ≤ y3.size := by omega
                have hi0 : (0 : Int) ≤ (k : Int) - n - d := by omega
                clear hln hnx hx1 hx2 hl3 hy3z
                go_wp2_with (at_builtin; refine wp_append4 rfl (.tmp 45) (.tmp 49) 24 rfl _ 16 Try.underlying24 info_string rfl m3 c3 rfl HO3.out _ rfl rfl HL3.out hm9 (by decide) hsz3 ?_)
                intro g4 c4 w4 ha4
                have hown4 := ha4.own
                rw [HX1.out, ← List.map_singleton, ← List.map_append] at hown4
                have HO4 := Lib.hid hown4
                have hbel4 := hbel3.trans ha4.bel
                clear ha4 hown4
                go_wp2_with fail
                go_roundw
                case rel => exact ⟨e + 1, d + n, m3 + 1, g4, c4, acc3 ++ [s.extract (a + d) (a + d + n)], y3.extract n y3.size, by rw [HDE.out, Nat.succ_mul], by omega, by omega, rfl, by rw [HX2.out, Nat.add_assoc], rfl, by congr 1; omega, by rw [List.length_append, HA3.out]; rfl, by rw [← Nat.add_assoc, ← HG3.out, HNX.out, List.append_assoc]; rfl, HO4.out, hbel4⟩
                case measure => simp [intOf]; omega
              · have hi0 : ¬ (0 : Int) ≤ (k : Int) - n - d := by omega
                have hd0 : 0 < d := by omega
                go_wp2_with fail
                go_roundw
                case rel => exact ⟨a + d, m3, g3, c3, acc3, y3, by omega, by omega, rfl, HY3.out, rfl, HA3.out, HG3.out, HO3.out, hbel3⟩
                case measure => simp only [strLen]; rw [HYZ.out]; omega
        · have hkd : decide ((k : Int) < (y.size : Int)) = false := by simp; omega
          have hstop : k < s.size - a → gl s a k < gl s a (k - n) := fun h => absurd (by rw [HYZ.out]; exact h) hkl
          have HST := Lib.hid hstop
          clear hstop
          go_wp2_with fail
          go_quiet (fail)
          have hni : (k : Int) - (i : Int) = (n : Int) := by omega
          have hdq : Dr _ (wr.drewN nq) := hd.drewN nq
          have hsub : ∀ e, e * n + n ≤ k → lng (gl s (a + e * n)) (s.size - (a + e * n)) = n := fun e he => by
            have hcp := lyn_copies (N := s.size - a) (by omega) HP.out HL.out HST.out (by rw [← HYZ.out]; exact hky) e he
            rw [gl_shift] at hcp
            exact lng_is (by omega) (by rw [HYZ.out] at hky; omega) hcp.1 fun l h1 h2 => hcp.2 l h1 (by omega)
          have HSUB := Lib.hid hsub
          have hoq := HO.out.dr hdq
          have HOQ := Lib.hid hoq
          have hbq := hbel.trans hdq.below
          have hka : a + k ≤ s.size := by rw [HYZ.out] at hky; omega
          clear hsub hoq hdq
          go_wp2_with fail
          go_loopw [0, 3, 4] (fun x v u w3 => ∃ e d m3 g3 c3 : Nat, ∃ acc3 : List ByteArray, ∃ y3 : ByteArray, d = e * n ∧ d ≤ k ∧ m3 ≤ a + d ∧ x = .string y3 ∧ y3 = s.extract (a + d) s.size ∧ v = .slice (some ⟨g3, 0, none⟩) m3 c3 ∧ u = .int .i64 ((k : Int) - n - d) ∧ acc3.length = m3 ∧ acc3 ++ prts s (a + d) = rr ∧ Own w3 w.heap.size 9 (.slice (some ⟨g3, 0, none⟩) m3 c3) (acc3.map Value.string) ∧ Below w.heap.size w w3) (fun _ _ u _ => (intOf u + 1).toNat)
          case atStart => exact ⟨0, 0, m, g, c, acc, y, by omega, by omega, by omega, rfl, by rw [HY.out]; rfl, rfl, by congr 1; omega, HA.out, HG.out, HOQ.out, hbq⟩
          case round =>
            obtain ⟨e, d, m3, g3, c3, acc3, y3, hde, hdk, hm3, rfl, hy3, rfl, rfl, hacc3, hg3, hown3, hbel3⟩ := hrel
            have HDE := Lib.hid hde
            have hy3z : y3.size = s.size - (a + d) := by rw [hy3, ext_size s (a + d) s.size (Nat.le_refl _)]
            have HY3 := Lib.hid hy3; have HY3Z := Lib.hid hy3z
            have HO3 := Lib.hid hown3; have HA3 := Lib.hid hacc3; have HG3 := Lib.hid hg3
            clear hde hy3 hown3 hacc3 hg3
            by_cases hge : d + n ≤ k
            · have hln : lng (gl s (a + d)) (s.size - (a + d)) = n := by rw [HDE.out]; exact HSUB.out e (by rw [← HDE.out]; exact hge)
              have hnx := prts_next s (i := a + d) (by omega) hln
              have hx1 : y3.extract 0 n = s.extract (a + d) (a + d + n) := by rw [HY3.out, ext_head s (a + d) n (by omega)]
              have hx2 : y3.extract n y3.size = s.extract (a + d + n) s.size := by rw [HY3.out, ext_tail]
              have HNX := Lib.hid hnx; have HX1 := Lib.hid hx1; have HX2 := Lib.hid hx2
              have hl3 : (acc3.map Value.string).length = m3 := by rw [List.length_map]; exact HA3.out
              have HL3 := Lib.hid hl3
              have hm9 : m3 < 4294967296 := by omega
              have hsz3 := hbel3.size
              have hny : n ≤ y3.size := by omega
              have hi0 : (0 : Int) ≤ (k : Int) - n - d := by omega
              clear hln hnx hx1 hx2 hl3 hy3z
              go_wp2_with (at_builtin; refine wp_append4 rfl (.tmp 45) (.tmp 49) 24 rfl _ 16 Try.underlying24 info_string rfl m3 c3 rfl HO3.out _ rfl rfl HL3.out hm9 (by decide) hsz3 ?_)
              intro g4 c4 w4 ha4
              have hown4 := ha4.own
              rw [HX1.out, ← List.map_singleton, ← List.map_append] at hown4
              have HO4 := Lib.hid hown4
              have hbel4 := hbel3.trans ha4.bel
              clear ha4 hown4
              go_wp2_with fail
              go_roundw
              case rel => exact ⟨e + 1, d + n, m3 + 1, g4, c4, acc3 ++ [s.extract (a + d) (a + d + n)], y3.extract n y3.size, by rw [HDE.out, Nat.succ_mul], by omega, by omega, rfl, by rw [HX2.out, Nat.add_assoc], rfl, by congr 1; omega, by rw [List.length_append, HA3.out]; rfl, by rw [← Nat.add_assoc, ← HG3.out, HNX.out, List.append_assoc]; rfl, HO4.out, hbel4⟩
              case measure => simp [intOf]; omega
            · have hi0 : ¬ (0 : Int) ≤ (k : Int) - n - d := by omega
              have hd0 : 0 < d := by omega
              go_wp2_with fail
              go_roundw
              case rel => exact ⟨a + d, m3, g3, c3, acc3, y3, by omega, by omega, rfl, HY3.out, rfl, HA3.out, HG3.out, HO3.out, hbel3⟩
              case measure => simp only [strLen]; rw [HYZ.out]; omega
    · have hfin : acc = rr := by rw [← HG.out, prts_end s (by omega)]; simp
      have hrl : rr.length = m := by rw [← hfin]; exact HA.out
      have hemp : y.toList.isEmpty = true := by rw [ByteArray.toList_eq]; have : y.data.toList = [] := List.eq_nil_of_length_eq_zero (by rw [L_len]; omega); rw [this]; rfl
      rw [hfin] at HO
      have HRL := Lib.hid hrl
      clear hfin hrl hyz
      go_wp2_with fail
      go_ret
      exact ⟨_, c, by rw [HRL.out]; rfl, by rw [HRL.out]; exact HO.out, hbel⟩
end Go.Proofs.Ytnbniccajppgjaa
