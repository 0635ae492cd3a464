/- rising: a list in order, each once. -/
import Derived.Test.YtaihigaafjmpiaaDoorOrd
import Derived.Test.YtaihigaafjmpiaaDoorHelp
import Derived.Test.YtaihigaafjmpiaaDoorEdit
import Derived.BigQuiet
import Derived.RegionTactic
import Derived.BigRegion
namespace Go.Proofs.YtaihigaafjmpiaaDoor
open Go.RowKit
set_option linter.unusedVariables false

theorem ss_at {l : List ByteArray} (h : SS l) {i : Nat} {x y : ByteArray} (hx : l[i]? = some x) (hy : l[i + 1]? = some y) : L x < L y := by
  obtain ⟨h1, e1⟩ := List.getElem?_eq_some_iff.1 hx
  obtain ⟨h2, e2⟩ := List.getElem?_eq_some_iff.1 hy
  have := List.pairwise_iff_getElem.1 h i (i + 1) h1 h2 (by omega)
  rw [e1, e2] at this
  exact this
set_option maxHeartbeats 400000 in
theorem lrising_yes (xs : List ByteArray) (hss : SS xs) (A : Option Addr) (c B n : Nat) (w : World) (hl : xs.length = n) (hn : n ≤ 1000000) (hx : Rds w B A (xs.map Value.string)) :
    Calls Tryd.prog 13 #[.slice A n c] w fun e w' => e = .returned (.bool true) ∧ Dr w w' := by
  subst hl
  have HX := Lib.hid hx; have HS := Lib.hid hss; clear hx hss
  go_enter Tryd.func13, Tryd.ntmps13
  go_wp2_with fail
  go_loopw [3] (fun i wr => ∃ k : Nat, k ≤ xs.length ∧ i = .int .i64 ((k : Int) + 1) ∧ Dr w wr) (fun i _ => xs.length + 2 - (intOf i).toNat)
  case atStart => exact ⟨0, by omega, by go_num, Dr.refl _⟩
  case round =>
    obtain ⟨k, hk, rfl, hd⟩ := hrel
    by_cases hlt : k + 1 < xs.length
    · obtain ⟨x, hx⟩ := some_of_lt (l := xs) (k := k) (by omega)
      obtain ⟨y, hy⟩ := some_of_lt (l := xs) (k := k + 1) hlt
      have hxy := ss_at HS.out hx hy
      obtain ⟨ad, rfl, hc⟩ := (HX.out.dr hd).at_ (map_at Value.string hx)
      obtain ⟨ad2, he, hc2⟩ := (HX.out.dr hd).at_ (map_at Value.string hy)
      injection he with he
      subst he
      have j1 : (k : Int) + 1 < (xs.length : Int) := by omega
      have j2 : IntKind.i64.wrap ((k : Int) + 1 - 1) = (k : Int) := by rw [IntWalk.i64_in _ (by omega)]; omega
      have j3 : (0 : Int) ≤ (k : Int) := by omega
      have j4 : (k : Int) < (xs.length : Int) := by omega
      have j5 : ((k : Int) + 1).toNat = k + 1 := by omega
      have j6 : (0 : Int) ≤ (k : Int) + 1 := by omega
      have hc3 := hc2
      rw [add_succ] at hc3
      have j7 : (Op.bytesLess y.toList x.toList || y.toList == x.toList) = false := by
        have h := gtS_iff y x
        rw [decide_eq_true hxy] at h
        cases hb : (Op.bytesLess y.toList x.toList || y.toList == x.toList)
        · rfl
        · rw [gtS, hb] at h; cases h
      clear hx hy hxy
      go_wp2_with fail
      go_quiet (fail)
      go_wp2_with fail
      exact ⟨⟨k + 1, by omega, by go_num, hd.drewN _⟩, by simp [intOf]; omega⟩
    · have hlt2 : decide ((k : Int) + 1 < (xs.length : Int)) = false := decide_eq_false (by omega)
      go_wp2_with fail
      go_ret
      exact ⟨rfl, hd⟩
end Go.Proofs.YtaihigaafjmpiaaDoor
