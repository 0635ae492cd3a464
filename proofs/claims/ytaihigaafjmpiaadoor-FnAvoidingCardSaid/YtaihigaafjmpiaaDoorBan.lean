/- BanOk, both: whether a list of strings is a ban. -/
import Derived.Test.YtaihigaafjmpiaaDoorHelp
import Derived.Test.YtaihigaafjmpiaaDoorStr
namespace Go.Proofs.YtaihigaafjmpiaaDoor
open Go.RowKit
set_option linter.unusedVariables false

/-- Whether a string may stand in a ban. -/
def banW (s : ByteArray) : Bool := isW (L s) && decide (1 ≤ s.size ∧ s.size ≤ 4)
/-- Whether a list of strings is a ban. -/
def banOk (ss : List ByteArray) : Bool := ss.all banW && decide (ss.length ≤ 8)

set_option maxHeartbeats 400000 in
theorem iBanOk_any (ss : List ByteArray) (A : Option Addr) (c B : Nat) (w : World) (hn : ss.length ≤ 4294967296) (hsz : ∀ s ∈ ss, s.size ≤ maxLen) (hrd : Rds w B A (ss.map Value.string)) :
    Calls Tryd.prog 11 #[.slice A ss.length c] w fun e w' => e = .returned (.bool (banOk ss)) ∧ Dr w w' := by
  have HZ := Lib.hid hsz; clear hsz
  have HR := Lib.hid hrd; clear hrd
  go_enter Tryd.func11, Tryd.ntmps11
  go_wp2_with fail
  go_loop [4, 7] (fun _ i => ∃ k : Nat, k ≤ ss.length ∧ i = .int .i64 k ∧ (ss.drop k).all banW = ss.all banW) (fun _ i => ss.length - (intOf i).toNat)
  case atStart => exact ⟨0, by omega, rfl, rfl⟩
  case round =>
    obtain ⟨k, hk, rfl, hg⟩ := hrel
    have HG := Lib.hid hg; clear hg
    by_cases hlt : k < ss.length
    · obtain ⟨s, hs⟩ := some_of_lt (l := ss) (k := k) hlt
      obtain ⟨ad, rfl, hc⟩ := HR.out.at_ (map_at Value.string hs)
      have hz := HZ.out s (List.mem_of_getElem? hs)
      have hz2 := hz; unfold maxLen at hz2
      have HD := Lib.hid (drop_at_list hs); clear hs
      cases h1 : isW (L s)
      · have H1 := Lib.hid h1; clear h1
        go_wp2_with (go_at_call 24; refine (isWord_is s _ hz H1.out _).mono ?_; rintro e w' ⟨rfl, rfl⟩)
        go_ret
        exact ⟨ret_bool (by rw [banOk, ← HG.out, HD.out, List.all_cons, banW, H1.out]; rfl), Dr.refl _⟩
      · have H1 := Lib.hid h1; clear h1
        by_cases h2 : 1 ≤ (s.size : Int) ∧ (s.size : Int) ≤ 4
        · have HB : Hid (banW s = true) := by
            show banW s = true
            rw [banW, H1.out, decide_eq_true (by omega)]; rfl
          have H2 := Lib.hid h2; clear h2
          go_wp2_with (first
            | (go_at_call 24; refine (isWord_is s _ hz H1.out _).mono ?_; rintro e w' ⟨rfl, rfl⟩)
            | (go_at_call 34; refine (within_yes _ _ _ H2.out _).mono ?_; rintro e w' ⟨rfl, rfl⟩))
          go_round
          case rel => exact ⟨k + 1, by omega, by go_num, by rw [← HG.out, HD.out, List.all_cons, HB.out, Bool.true_and]⟩
          case measure => simp [intOf]; omega
        · have HB : Hid (banW s = false) := by
            show banW s = false
            rw [banW, H1.out, decide_eq_false (by omega)]; rfl
          have H2 := Lib.hid h2; clear h2
          go_wp2_with (first
            | (go_at_call 24; refine (isWord_is s _ hz H1.out _).mono ?_; rintro e w' ⟨rfl, rfl⟩)
            | (go_at_call 34; refine (within_no _ _ _ H2.out _).mono ?_; rintro e w' ⟨rfl, rfl⟩))
          go_ret
          exact ⟨ret_bool (by rw [banOk, ← HG.out, HD.out, List.all_cons, HB.out]; rfl), Dr.refl _⟩
    · have h0 : ss.drop k = [] := List.drop_eq_nil_of_le (by omega)
      have H0 := Lib.hid h0; clear h0
      go_wp2_with fail
      go_ret
      exact ⟨ret_bool (by rw [banOk, ← HG.out, H0.out]; simp; omega), Dr.refl _⟩
end Go.Proofs.YtaihigaafjmpiaaDoor
