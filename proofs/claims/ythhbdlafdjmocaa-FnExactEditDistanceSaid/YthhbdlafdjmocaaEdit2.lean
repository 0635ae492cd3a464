/- EditDistance of the reference. -/
import Derived.Test.YthhbdlafdjmocaaEdit
namespace Go.Proofs.Ythhbdlafdjmocaa
open Go.RowKit
set_option linter.unusedVariables false
set_option maxHeartbeats 1000000 in
theorem sEdit_yes (s t : ByteArray) (hs : s.size ≤ maxLen) (ht : t.size ≤ maxLen) (h1 : isW (L s) = true) (h2 : isW (L t) = true) (h3 : s.size ≤ 60) (h4 : t.size ≤ 60) (w : World) :
    Calls Try.prog 26 #[.string s, .string t] w fun e w' => e = .returned (.int .i64 (ed (L s) (L t) s.size t.size)) ∧ Below w.heap.size w w' := by
  have Q1 := Lib.hid h1; have Q2 := Lib.hid h2
  have b1 : decide (60 < (s.size : Int)) = false := by simp; omega
  have b2 : decide (60 < (t.size : Int)) = false := by simp; omega
  clear h1 h2
  go_enter Try.func26, Try.ntmps26
  go_wp2_with (first
    | (go_at_call 50; with_reducible refine (sWordOk_is s _ hs Q1.out _).mono ?_; rintro e w' ⟨rfl, rfl⟩)
    | (go_at_call 50; with_reducible refine (sWordOk_is t _ ht Q2.out _).mono ?_; rintro e w' ⟨rfl, rfl⟩))
  clear b1 b2
  go_loopw [5, 6] (fun v i wr => ∃ (k : Nat) (j : Int) (A : Option Addr) (c : Nat), k ≤ t.size + 1 ∧ (k : Int) ≤ j ∧ j ≤ (k : Int) ∧ i = .int .i64 j ∧ v = .slice A k c ∧ Own wr w.heap.size 3 (.slice A k c) (rowL (ed (L s) (L t) 0) k) ∧ Below w.heap.size w wr) (fun _ i _ => t.size + 1 - (intOf i).toNat)
  case atStart => exact ⟨0, 0, _, _, by omega, by omega, by omega, rfl, rfl, Own.empty (Nat.le_refl _), (Below.refl _ _).alloc (Nat.le_refl _) _⟩
  case round =>
    obtain ⟨k, j, A, c, hk, hj1, hj2, rfl, rfl, hown, hbel⟩ := hrel
    have HO := Lib.hid hown; clear hown
    by_cases hlt : k < t.size + 1
    · go_wp2_with (at_builtin; refine wp_append1 rfl (.tmp 36) (.tmp 38) 27 rfl _ 8 Try.underlying27 info_int rfl rfl HO.out _ rfl rfl k ?n1 ?n2 ?n3 ?n4 ?_)
      case n1 => exact rowL_length _ _
      case n2 => omega
      case n3 => decide
      case n4 => exact hbel.size
      intro A' c' w1 hown1 hbel1 hsz1
      rw [show rowL (ed (L s) (L t) 0) k ++ [Value.int .i64 j] = rowL (ed (L s) (L t) 0) (k + 1) from by rw [rowL_succ, show j = (k : Int) from by omega]; rfl] at hown1
      have HO1 := Lib.hid hown1; clear hown1
      go_wp2_with fail
      go_roundw
      case rel => exact ⟨k + 1, j + 1, A', c', by omega, by omega, by omega, rfl, rfl, HO1.out, hbel.trans hbel1⟩
      case measure => simp [intOf]; omega
    · have hkn : k = t.size + 1 := by omega
      have hjn : j = (t.size : Int) + 1 := by omega
      subst hkn
      subst hjn
      have hr0 := HO.out.reads
      clear HO
      have HR0 := Lib.hid hr0; clear hr0
      have hdc : decide ((t.size : Int) + 1 ≤ (t.size : Int)) = false := decide_eq_false (by omega)
      go_wp2_with fail
      clear hdc
      go_loopw [5, 7, 8, 9, 10] (fun v i _ _ _ wr => ∃ k : Nat, ∃ A c, k ≤ s.size ∧ i = .int .i64 ((k : Int) + 1) ∧ v = .slice A (t.size + 1) c ∧ Rds wr wr.heap.size A (rowL (ed (L s) (L t) k) (t.size + 1)) ∧ Below w.heap.size w wr) (fun _ i _ _ _ _ => s.size + 1 - (intOf i).toNat)
      case atStart => exact ⟨0, _, _, by omega, by go_num, rfl, HR0.out, hbel⟩
      case round =>
        clear HR0 hbel
        obtain ⟨i, A, c, hi, rfl, rfl, hrd, hbel⟩ := hrel
        have HR := Lib.hid hrd; clear hrd
        by_cases hlt2 : i < s.size
        · have hle : decide ((i : Int) + 1 ≤ (s.size : Int)) = true := decide_eq_true (by omega)
          go_wp2_with fail
          clear hle
          obtain ⟨wo, rfl⟩ : ∃ wo : World, wo = wr := ⟨_, rfl⟩
          go_loopw [8, 9, 10] (fun v j _ w2 => ∃ k : Nat, ∃ A' c', k ≤ t.size ∧ j = .int .i64 ((k : Int) + 1) ∧ v = .slice A' (k + 1) c' ∧ Own w2 wo.heap.size 3 (.slice A' (k + 1) c') (rowL (ed (L s) (L t) (i + 1)) (k + 1)) ∧ Below wo.heap.size wo w2) (fun _ j _ _ => t.size + 1 - (intOf j).toNat)
          case atStart => exact ⟨0, _, _, by omega, by go_num, rfl, Own.one (Nat.le_refl _), (Below.refl _ _).alloc (Nat.le_refl _) _⟩
          case round =>
            obtain ⟨k, A', c', hk, rfl, rfl, hown, hbel2⟩ := hrel
            have HO := Lib.hid hown
            by_cases hlt3 : k < t.size
            · have r2 := HR.out.below hbel2 (Nat.le_refl _)
              obtain ⟨ad, rfl, hc0⟩ := r2.at_ (rowL_at _ _ k (by omega))
              obtain ⟨ad', had, hc1⟩ := r2.at_ (rowL_at (ed (L s) (L t) i) (t.size + 1) (k + 1) (by omega))
              injection had with had
              subst had
              obtain ⟨ad2, rfl, hc2⟩ := hown.reads.at_ (rowL_at (ed (L s) (L t) (i + 1)) (k + 1) k (by omega))
              clear r2 hown
              have e0 := ed_bd (L s) (L t) i k
              have e1 := ed_bd (L s) (L t) i (k + 1)
              have e2 := ed_bd (L s) (L t) (i + 1) k
              obtain ⟨e3, e4⟩ := e0
              obtain ⟨e5, e6⟩ := e1
              obtain ⟨e7, e8⟩ := e2
              have hi1 : (i : Int) < s.size := by omega
              have hi2 : (k : Int) < t.size := by omega
              have hle : decide ((k : Int) + 1 ≤ (t.size : Int)) = true := decide_eq_true (by omega)
              by_cases hne : s[i] = t[k]
              · have hb : ((s[i].toNat : Int) != (t[k].toNat : Int)) = false := by rw [hne]; simp
                have HN := Lib.hid hne; clear hne
                have x1 : IntKind.i64.wrap ((i : Int) + 1 - 1) = (i : Int) := by rw [IntWalk.i64_in _ (by omega)]; omega
                have x2 : IntKind.i64.wrap ((k : Int) + 1 - 1) = (k : Int) := by rw [IntWalk.i64_in _ (by omega)]; omega
                go_wp2_with fail
                go_quiet (fail)
                clear x1
                go_wp2_with fail
                have hs1 := hbel2.size
                have hown2 : Own (wr.drewN nq) wo.heap.size 3 (.slice (some ad2) (k + 1) c') _ := HO.out.dr ((Dr.refl _).drewN nq)
                have hbel3 : Below wo.heap.size wo (wr.drewN nq) := below_drewN hbel2 nq
                have hs3 := hbel3.size
                have d1 : (wr.drewN nq).cell? (ad.add (k + 1)) = some (.int .i64 (ed (L s) (L t) i (k + 1))) := hc1
                have d1b := d1
                rw [add_succ] at d1b
                have d2 : (wr.drewN nq).cell? (ad2.add k) = some (.int .i64 (ed (L s) (L t) (i + 1) k)) := hc2
                clear hc0 hc1 hc2
                generalize wr.drewN nq = w3 at *
                have HO3 := Lib.hid hown2; clear hown2
                have g1 : (0 : Int) ≤ (k : Int) + 1 := by omega
                have g2 : (k : Int) + 1 < (t.size : Int) + 1 := by omega
                have g3 : ((k : Int) + 1).toNat = k + 1 := by omega
                have g4 : (k : Int) < (k : Int) + 1 := by omega
                have m4 : IntKind.i64.wrap (k : Int) = (k : Int) := IntWalk.i64_in _ (by omega)
                have m2 : IntKind.i64.wrap (ed (L s) (L t) i (k + 1) + 1) = ed (L s) (L t) i (k + 1) + 1 := IntWalk.i64_in _ (by omega)
                have m3 : IntKind.i64.wrap (ed (L s) (L t) (i + 1) k + 1) = ed (L s) (L t) (i + 1) k + 1 := IntWalk.i64_in _ (by omega)
                have HE := Lib.hid (ed_eq s t i k hlt2 hlt3 HN.out)
                go_region_law (refine step_append1 rfl (.tmp 70) (.tmp 84) 27 rfl _ 8 Try.underlying27 info_int rfl (by rfl) HO3.out rfl (by rfl) (k + 1) (rowL_length _ _) (by omega) (by decide) hs3 ?_; intro A3 c3 w4 hown4 hbel4 hsz4)
                all_goals
                  clear x2 m2 m3 m4 d1 d1b d2 g3
                  rw [HE.out, ← rowL_succ] at hown4
                  have HO4 := Lib.hid hown4; clear hown4
                  go_wp2_with fail
                  go_roundw
                  case rel => exact ⟨k + 1, A3, c3, by omega, by go_num, rfl, HO4.out, hbel3.trans hbel4⟩
                  case measure => simp [intOf]; omega
              · have hb : ((s[i].toNat : Int) != (t[k].toNat : Int)) = true := by
                  simp; intro h; exact hne (UInt8.toNat_inj.1 (by omega))
                have HN := Lib.hid hne; clear hne
                have x1 : IntKind.i64.wrap ((i : Int) + 1 - 1) = (i : Int) := by rw [IntWalk.i64_in _ (by omega)]; omega
                have x2 : IntKind.i64.wrap ((k : Int) + 1 - 1) = (k : Int) := by rw [IntWalk.i64_in _ (by omega)]; omega
                go_wp2_with fail
                go_quiet (fail)
                clear x1
                go_wp2_with fail
                have hs1 := hbel2.size
                have hown2 : Own (wr.drewN nq) wo.heap.size 3 (.slice (some ad2) (k + 1) c') _ := HO.out.dr ((Dr.refl _).drewN nq)
                have hbel3 : Below wo.heap.size wo (wr.drewN nq) := below_drewN hbel2 nq
                have hs3 := hbel3.size
                have d1 : (wr.drewN nq).cell? (ad.add (k + 1)) = some (.int .i64 (ed (L s) (L t) i (k + 1))) := hc1
                have d1b := d1
                rw [add_succ] at d1b
                have d2 : (wr.drewN nq).cell? (ad2.add k) = some (.int .i64 (ed (L s) (L t) (i + 1) k)) := hc2
                clear hc0 hc1 hc2
                generalize wr.drewN nq = w3 at *
                have HO3 := Lib.hid hown2; clear hown2
                have g1 : (0 : Int) ≤ (k : Int) + 1 := by omega
                have g2 : (k : Int) + 1 < (t.size : Int) + 1 := by omega
                have g3 : ((k : Int) + 1).toNat = k + 1 := by omega
                have g4 : (k : Int) < (k : Int) + 1 := by omega
                have m4 : IntKind.i64.wrap (k : Int) = (k : Int) := IntWalk.i64_in _ (by omega)
                have m2 : IntKind.i64.wrap (ed (L s) (L t) i (k + 1) + 1) = ed (L s) (L t) i (k + 1) + 1 := IntWalk.i64_in _ (by omega)
                have m3 : IntKind.i64.wrap (ed (L s) (L t) (i + 1) k + 1) = ed (L s) (L t) (i + 1) k + 1 := IntWalk.i64_in _ (by omega)
                have HE := Lib.hid (ed_ne s t i k hlt2 hlt3 HN.out)
                go_region_law (refine step_append1 rfl (.tmp 70) (.tmp 84) 27 rfl _ 8 Try.underlying27 info_int rfl (by rfl) HO3.out rfl (by rfl) (k + 1) (rowL_length _ _) (by omega) (by decide) hs3 ?_; intro A3 c3 w4 hown4 hbel4 hsz4)
                all_goals
                  clear x2 m2 m3 m4 d1 d1b d2 g3
                  rw [HE.out, ← rowL_succ] at hown4
                  have HO4 := Lib.hid hown4; clear hown4
                  go_wp2_with fail
                  go_roundw
                  case rel => exact ⟨k + 1, A3, c3, by omega, by go_num, rfl, HO4.out, hbel3.trans hbel4⟩
                  case measure => simp [intOf]; omega
            · have hkn : k = t.size := by omega
              subst hkn
              clear hown
              go_wp2_with fail
              go_roundw
              case rel => exact ⟨i + 1, A', c', by omega, by go_num, rfl, HO.out.reads, hbel.trans (hbel2.mono hbel.size)⟩
              case measure => simp [intOf]; omega
        · have hin : i = s.size := by omega
          subst hin
          obtain ⟨ad, rfl, hc⟩ := HR.out.at_ (rowL_at (ed (L s) (L t) s.size) (t.size + 1) t.size (by omega))
          go_wp2_with fail
          go_ret
          exact ⟨rfl, hbel⟩
theorem edOk_iff (s t : ByteArray) : (isW (L s) = true ∧ isW (L t) = true ∧ s.size ≤ 60 ∧ t.size ≤ 60) ↔ (isW (L s) && decide (s.size ≤ 60)) = true ∧ (isW (L t) && decide (t.size ≤ 60)) = true := by
  simp; exact ⟨fun ⟨a, b, c, d⟩ => ⟨⟨a, c⟩, b, d⟩, fun ⟨⟨a, c⟩, b, d⟩ => ⟨a, b, c, d⟩⟩
set_option maxHeartbeats 400000 in
theorem sEdit_no (s t : ByteArray) (hs : s.size ≤ maxLen) (ht : t.size ≤ maxLen) (h : ¬ (isW (L s) = true ∧ isW (L t) = true ∧ s.size ≤ 60 ∧ t.size ≤ 60)) (w : World) :
    Calls Try.prog 26 #[.string s, .string t] w fun e w' => e = .returned (.int .i64 (-1)) ∧ Below w.heap.size w w' := by
  cases h1 : isW (L s)
  · have H1 := Lib.hid h1; clear h1 h
    go_enter Try.func26, Try.ntmps26
    go_wp2_with (go_at_call 50; refine (sWordOk_is s _ hs H1.out _).mono ?_; rintro e w' ⟨rfl, rfl⟩)
    go_ret
    exact ⟨rfl, Below.refl _ _⟩
  · cases h2 : isW (L t)
    · have H1 := Lib.hid h1; clear h1 h
      have H2 := Lib.hid h2; clear h2
      go_enter Try.func26, Try.ntmps26
      go_wp2_with (first
        | (go_at_call 50; with_reducible refine (sWordOk_is s _ hs H1.out _).mono ?_; rintro e w' ⟨rfl, rfl⟩)
        | (go_at_call 50; with_reducible refine (sWordOk_is t _ ht H2.out _).mono ?_; rintro e w' ⟨rfl, rfl⟩))
      go_ret
      exact ⟨rfl, Below.refl _ _⟩
    · have h3 : 60 < s.size ∨ 60 < t.size := by
        rcases Nat.lt_or_ge 60 s.size with h3 | h3
        · exact .inl h3
        · rcases Nat.lt_or_ge 60 t.size with h4 | h4
          · exact .inr h4
          · exact absurd ⟨h1, h2, h3, h4⟩ h
      have H1 := Lib.hid h1; clear h1 h
      have H2 := Lib.hid h2; clear h2
      by_cases h4 : 60 < s.size
      · clear h3
        go_enter Try.func26, Try.ntmps26
        go_wp2_with (first
          | (go_at_call 50; with_reducible refine (sWordOk_is s _ hs H1.out _).mono ?_; rintro e w' ⟨rfl, rfl⟩)
          | (go_at_call 50; with_reducible refine (sWordOk_is t _ ht H2.out _).mono ?_; rintro e w' ⟨rfl, rfl⟩))
        go_ret
        exact ⟨rfl, Below.refl _ _⟩
      · have h5 : 60 < t.size := by omega
        clear h3
        go_enter Try.func26, Try.ntmps26
        go_wp2_with (first
          | (go_at_call 50; with_reducible refine (sWordOk_is s _ hs H1.out _).mono ?_; rintro e w' ⟨rfl, rfl⟩)
          | (go_at_call 50; with_reducible refine (sWordOk_is t _ ht H2.out _).mono ?_; rintro e w' ⟨rfl, rfl⟩))
        go_ret
        exact ⟨rfl, Below.refl _ _⟩
set_option maxHeartbeats 400000 in
theorem iEdit_no (s t : ByteArray) (hs : s.size ≤ maxLen) (ht : t.size ≤ maxLen) (h : ¬ (isW (L s) = true ∧ isW (L t) = true ∧ s.size ≤ 60 ∧ t.size ≤ 60)) (w : World) :
    Calls Try.prog 27 #[.string s, .string t] w fun e w' => e = .returned (.int .i64 (-1)) ∧ Below w.heap.size w w' := by
  rw [edOk_iff] at h
  cases h1 : (isW (L s) && decide (s.size ≤ 60))
  · have H1 := Lib.hid h1; clear h1 h
    go_enter Try.func27, Try.ntmps27
    go_wp2_with (go_at_call 54; refine (isShort_is s _ H1.out hs _).mono ?_; rintro e w' ⟨rfl, rfl⟩)
    go_ret
    exact ⟨rfl, Below.refl _ _⟩
  · cases h2 : (isW (L t) && decide (t.size ≤ 60))
    · have H1 := Lib.hid h1; clear h1 h
      have H2 := Lib.hid h2; clear h2
      go_enter Try.func27, Try.ntmps27
      go_wp2_with (first
        | (go_at_call 54; with_reducible refine (isShort_is s _ H1.out hs _).mono ?_; rintro e w' ⟨rfl, rfl⟩)
        | (go_at_call 54; with_reducible refine (isShort_is t _ H2.out ht _).mono ?_; rintro e w' ⟨rfl, rfl⟩))
      go_ret
      exact ⟨rfl, Below.refl _ _⟩
    · exact absurd ⟨h1, h2⟩ h
end Go.Proofs.Ythhbdlafdjmocaa
