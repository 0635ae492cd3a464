/- slices.BinarySearch at strings in order: whether the string is among them. No condition but the bounds. -/
import Derived.Test.YtfjmopiofcbpgaaApp3
namespace Go.Proofs.Ytfjmopiofcbpgaa
open Go.RowKit
set_option linter.unusedVariables false

theorem cmpNaN_any (x : ByteArray) (w : World) : Calls Try.prog 108 #[.string x] w fun e w' => e = .returned (.bool false) ∧ w = w' := by
  go_enter Try.func108, Try.ntmps108
  go_wp2_with fail
  go_ret
  exact ⟨by simp, rfl⟩
theorem slNaN_any (x : ByteArray) (w : World) : Calls Try.prog 89 #[.string x] w fun e w' => e = .returned (.bool false) ∧ w = w' := by
  go_enter Try.func89, Try.ntmps89
  go_wp2_with fail
  go_ret
  exact ⟨by simp, rfl⟩
theorem cmpLess_is (x y : ByteArray) (b : Bool) (hb : decide (L x < L y) = b) (w : World) : Calls Try.prog 88 #[.string x, .string y] w fun e w' => e = .returned (.bool b) ∧ w = w' := by
  have hlt : Op.bytesLess x.toList y.toList = b := by rw [ByteArray.toList_eq, ByteArray.toList_eq, bytesLess_eq]; exact hb
  clear hb
  go_enter Try.func88, Try.ntmps88
  go_wp2_with (go_at_call 108; refine (cmpNaN_any _ _).mono ?_; rintro e w' ⟨rfl, rfl⟩)
  go_ret
  exact ⟨rfl, rfl⟩
set_option maxHeartbeats 4000000 in
set_option maxRecDepth 1000000 in
theorem binS_any (ss : List ByteArray) (x : ByteArray) (g c : Nat) (w : World) (hn : ss.length ≤ 1000000) (hss : SS ss) (hst : StrAt w g c ss) :
    Calls Try.prog 63 #[.slice (some ⟨g, 0, none⟩) ss.length c, .string x] w fun e w' => ∃ r : Int, e = .returned (.tuple #[.int .i64 r, .bool (hasS ss x)]) ∧ Dr w w' := by
  obtain ⟨n, hl⟩ : ∃ n, ss.length = n := ⟨_, rfl⟩
  obtain ⟨b, hb⟩ : ∃ b, hasS ss x = b := ⟨_, rfl⟩
  rw [hl] at hn ⊢
  rw [hb]
  have HL := Lib.hid hl; have HB := Lib.hid hb; have HS := Lib.hid hss; have HT := Lib.hid hst
  clear hl hb hss hst
  go_enter Try.func63, Try.ntmps63
  go_wp2_with fail
  go_loopw [7, 8, 9] (fun i j _ wr => ∃ lo hi : Nat, lo ≤ hi ∧ hi ≤ n ∧ i = .int .i64 lo ∧ j = .int .i64 hi ∧ (∀ q a, q < lo → ss[q]? = some a → L a < L x) ∧ (∀ q a, hi ≤ q → ss[q]? = some a → ¬ L a < L x) ∧ Dr w wr) (fun i j _ _ => (intOf j).toNat - (intOf i).toNat)
  case atStart => exact ⟨0, n, by omega, by omega, rfl, rfl, fun q a h => by omega, fun q a h1 h2 => by have := (List.getElem?_eq_some_iff.1 h2).1; have := HL.out; omega, Dr.refl _⟩
  case round =>
    obtain ⟨lo, hi, hlh, hhn, rfl, rfl, h1, h2, hd⟩ := hrel
    have H1 := Lib.hid h1; have H2 := Lib.hid h2
    clear h1 h2
    by_cases hlt : lo < hi
    · obtain ⟨y, hy⟩ := some_of_lt (l := ss) (k := (lo + hi) / 2) (by rw [HL.out]; omega)
      have hcm := (HT.out.below hd.below).2.2.2 _ _ hy
      obtain ⟨M, hM⟩ : ∃ M, (lo + hi) / 2 = M := ⟨_, rfl⟩
      rw [hM] at hy hcm
      have hmid : ((lo : Int) + (hi : Int)).fdiv (2 ^ min (Int.toNat 1) IntKind.u64.bits) = (M : Int) := by
        rw [Int.fdiv_eq_ediv_of_nonneg _ (by decide)]
        show ((lo : Int) + (hi : Int)) / 2 = (M : Int)
        omega
      have hmid2 : ((lo : Int) + (hi : Int)) / 2 = (M : Int) := by omega
      have hM1 : lo ≤ M := by omega
      have hM2 : M < hi := by omega
      have HY := Lib.hid hy
      clear hy
      cases hq : decide (L y < L x)
      · have h2' : ∀ q a, M ≤ q → ss[q]? = some a → ¬ L a < L x := fun q a hq1 ha hla => by
          by_cases hqe : q = M
          · subst hqe; rw [HY.out] at ha; injection ha with ha; subst ha; exact of_decide_eq_false hq hla
          · exact of_decide_eq_false hq (List.lt_trans (ss_lt HS.out HY.out ha (by omega)) hla)
        have HQ := Lib.hid hq; have H2' := Lib.hid h2'; clear hq h2'
        go_wp2_with (go_at_call 88; refine (cmpLess_is _ _ _ HQ.out _).mono ?_; rintro e w' ⟨rfl, rfl⟩)
        go_roundw
        case rel => exact ⟨lo, M, by omega, by omega, rfl, rfl, H1.out, H2'.out, by first | exact hd | exact hd.drew | exact hd.drewN _⟩
        case measure => simp [intOf]; omega
      · have h1' : ∀ q a, q < M + 1 → ss[q]? = some a → L a < L x := fun q a hq1 ha => by
          by_cases hqe : q = M
          · subst hqe; rw [HY.out] at ha; injection ha with ha; subst ha; exact of_decide_eq_true hq
          · exact List.lt_trans (ss_lt HS.out ha HY.out (by omega)) (of_decide_eq_true hq)
        have HQ := Lib.hid hq; have H1' := Lib.hid h1'; clear hq h1'
        go_wp2_with (go_at_call 88; refine (cmpLess_is _ _ _ HQ.out _).mono ?_; rintro e w' ⟨rfl, rfl⟩)
        go_roundw
        case rel => exact ⟨M + 1, hi, by omega, by omega, rfl, rfl, H1'.out, H2.out, by first | exact hd | exact hd.drew | exact hd.drewN _⟩
        case measure => simp [intOf]; omega
    · have hlo : lo = hi := by omega
      subst hlo
      have hfd := ss_found HS.out H1.out H2.out
      by_cases hln : lo < n
      · obtain ⟨y, hy⟩ := some_of_lt (l := ss) (k := lo) (by rw [HL.out]; omega)
        have hcm := (HT.out.below hd.below).2.2.2 _ _ hy
        by_cases hyx : y = x
        · have hbt : b = true := by rw [← HB.out, hasS_mem, hfd, hy, hyx]
          have heq : (y.toList == x.toList) = true := by rw [hyx]; simp
          subst hbt
          clear hfd hy hyx
          go_wp2_with fail
          go_ret2
          exact ⟨_, rfl, by first | exact hd | exact hd.drew | exact hd.drewN _⟩
        · have hbf : b = false := by
            rw [← HB.out, Bool.eq_false_iff, ne_eq, hasS_mem, hfd, hy]
            intro h; injection h with h; exact hyx h
          have heq : (y.toList == x.toList) = false := str_ne hyx
          subst hbf
          clear hfd hy hyx
          go_wp2_with (go_at_call 89; refine (slNaN_any _ _).mono ?_; rintro e w' ⟨rfl, rfl⟩)
          all_goals go_ret2
          all_goals exact ⟨_, rfl, by first | exact hd | exact hd.drew | exact hd.drewN _⟩
      · have hbf : b = false := by
          rw [← HB.out, Bool.eq_false_iff, ne_eq, hasS_mem, hfd]
          intro h; have := (List.getElem?_eq_some_iff.1 h).1; have := HL.out; omega
        subst hbf
        clear hfd
        go_wp2_with fail
        go_ret2
        exact ⟨_, rfl, by first | exact hd | exact hd.drew | exact hd.drewN _⟩
end Go.Proofs.Ytfjmopiofcbpgaa
