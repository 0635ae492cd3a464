/- DeterminantOf and MatrixOf of the program at valid substitutions. No condition but the bounds. -/
import Derived.Test.YtbegecoocgkbiaaGreatDoorDtm
import Derived.Test.YtbegecoocgkbiaaGreatDoorNum
import Derived.Test.YtbegecoocgkbiaaGreatDoorFxp
namespace Go.Proofs.YtbegecoocgkbiaaGreatDoor
open Go.RowKit
set_option linter.unusedVariables false

set_option maxRecDepth 4000 in
set_option maxHeartbeats 1000000 in
theorem isMatrix_yes (n : Nat) (m : List (List Int)) (h1 : 1 ≤ n) (h4 : n ≤ 4) (hsq : sqM n m) (g c B : Nat) (w : World) (hg : Gr w B g m) :
    Calls Tryz.prog 72 #[.slice (some ⟨g, 0, none⟩) n c] w fun e w' => e = .returned (.bool true) ∧ w = w' := by
  have HG := Lib.hid hg; have HS := Lib.hid hsq
  clear hg hsq
  go_enter Tryz.func72, Tryz.ntmps72
  go_wp2_with fail
  go_loopw [4, 6, 9] (fun _ _ i wr => ∃ k : Nat, k ≤ n ∧ i = .int .i64 k ∧ wr = w) (fun _ _ i _ => n - (intOf i).toNat)
  case atStart => exact ⟨0, by omega, rfl, rfl⟩
  case round =>
    obtain ⟨k, hk, rfl, rfl⟩ := hrel
    by_cases hlt : k < n
    · obtain ⟨r, hr⟩ := some_of_lt (l := m) (k := k) (by rw [HS.out.1]; exact hlt)
      obtain ⟨q, cq, hcell, _, _, _, hq⟩ := HG.out.row hr
      have hrl := (HS.out.2 r (List.mem_of_getElem? hr)).1
      have hrx := (HS.out.2 r (List.mem_of_getElem? hr)).2
      rw [hrl] at hcell
      have hlt2 : (k : Int) < (n : Int) := by omega
      have HQ := Lib.hid hq; have HRL := Lib.hid hrl; have HRX := Lib.hid hrx
      clear hq hrl hrx hr
      go_wp2_with fail
      obtain ⟨wo, rfl⟩ : ∃ z : World, z = wr := ⟨_, rfl⟩
      go_loopw [6, 20] (fun _ i wv => ∃ j : Nat, j ≤ n ∧ i = .int .i64 j ∧ wv = wo) (fun _ i _ => n - (intOf i).toNat)
      case atStart => exact ⟨0, by omega, rfl, rfl⟩
      case round =>
        obtain ⟨j, hj, rfl, rfl⟩ := hrel
        by_cases hjl : j < n
        · obtain ⟨x, hx⟩ := some_of_lt (l := r) (k := j) (by rw [HRL.out]; exact hjl)
          have hcx := HQ.out j x hx
          have hxb := HRX.out x (List.mem_of_getElem? hx)
          have hx1 := hxb.1
          have hx2 := hxb.2
          have hjl2 : (j : Int) < (n : Int) := by omega
          clear hx hxb
          go_wp2_with (go_at_call 61; refine (within_yes _ _ _ ⟨hx1, hx2⟩ _).mono ?_; rintro e w' ⟨rfl, rfl⟩)
          go_roundw
          case rel => exact ⟨j + 1, by omega, by go_num, by first | trivial | rfl⟩
          case measure => simp [intOf]; omega
        · go_wp2_with fail
          go_roundw
          case rel => exact ⟨k + 1, by omega, by go_num, by first | trivial | rfl⟩
          case measure => simp [intOf]; omega
    · go_wp2_with (go_at_call 61; refine (within_yes _ _ _ ⟨by omega, by omega⟩ _).mono ?_; rintro e w' ⟨rfl, rfl⟩)
      go_ret
      exact ⟨rfl, rfl⟩
theorem iDetOf_yes (n : Nat) (m : List (List Int)) (h1 : 1 ≤ n) (h4 : n ≤ 4) (hsq : sqM n m) (g c B : Nat) (w : World) (hg : Gr w B g m) (hc : n ≤ c) (hB : B ≤ w.heap.size) :
    Calls Tryz.prog 14 #[.slice (some ⟨g, 0, none⟩) n c] w fun e w' => e = .returned (.int .i64 (dtF n m)) ∧ Below w.heap.size w w' := by
  have hm := isMatrix_yes n m h1 h4 hsq g c B w hg
  have hd := iDet_any n m h4 hsq g c B w hg hc hB
  have HM := Lib.hid hm; have HD := Lib.hid hd
  clear hm hd hg hsq
  go_enter Tryz.func14, Tryz.ntmps14
  go_wp2_with fail
  refine HM.out.mono ?_
  rintro e w1 ⟨rfl, rfl⟩
  go_wp2_with fail
  refine HD.out.mono ?_
  rintro e w2 ⟨rfl, b2⟩
  go_wp2_with fail
  go_ret
  exact ⟨rfl, b2⟩
set_option maxRecDepth 4000 in
theorem iMatrixOf_yes (zs : List ByteArray) (A : Option Addr) (nz cz B : Nat) (w : World) (hl : zs.length = nz) (hsu : suOk zs = true) (hrd : Rds w B A (zs.map Value.string)) (hB : B ≤ w.heap.size) :
    Calls Tryz.prog 15 #[.agg #[.slice A nz cz]] w fun e w' => ∃ g c vs, e = .returned (.slice (some ⟨g, 0, none⟩) nz c) ∧ Bld w' w.heap.size 34 g nz c vs (mtL zs) ∧ Below w.heap.size w w' := by
  have bA : Below w.heap.size w (w.alloc (.cells #[.slice A nz cz] 25)) := (Below.refl _ _).alloc (Nat.le_refl _) _
  have zA : (w.alloc (.cells #[.slice A nz cz] 25)).heap.size = w.heap.size + 1 := by simp
  have h0 := cell_of_row _ _ 0 _ _ (0, 0) (heap_alloc_new w (.cells #[.slice A nz cz] 25))
  have h4 := (su_g hsu).1
  have h8 : ∀ x ∈ zs, x.size ≤ 8 := fun x hx => ((su_g hsu).2 x hx).2.1
  have hc1 := iSubstOk_any zs A cz B _ (by omega) (by omega) (fun x hx => by have := h8 x hx; unfold maxLen; omega) (hrd.below bA hB)
  rw [hl, hsu] at hc1
  have hc2 := fun v hr hv => iMatrix_any zs A nz cz B v hl (by omega) h8 hr hv
  have HC1 := Lib.hid hc1; have HC2 := Lib.hid hc2; have HRD := Lib.hid hrd; have H0 := Lib.hid h0
  clear hc1 hc2 hrd h0 h8 hsu hl h4
  go_enter Tryz.func15, Tryz.ntmps15
  go_wp2_with fail
  refine HC1.out.mono ?_
  rintro e w1 ⟨rfl, b1⟩
  have bw1 : Below w.heap.size w w1 := bA.trans (b1.mono (by omega))
  have z1 := b1.size
  rw [zA] at z1
  have k1 : w1.cell? ⟨w.heap.size, 0, none⟩ = some (.slice A nz cz) := (b1.cell (p := ⟨w.heap.size, 0, none⟩) (by show w.heap.size < (w.alloc _).heap.size; omega)).trans H0.out
  go_wp2_with fail
  refine (HC2.out w1 (HRD.out.below bw1 hB) (by omega)).mono ?_
  rintro e w2 ⟨g, c, vs, rfl, hb, b2⟩
  go_wp2_with fail
  go_ret
  exact ⟨g, c, vs, rfl, hb.lower (by omega), bw1.trans (b2.mono (by omega))⟩
end Go.Proofs.YtbegecoocgkbiaaGreatDoor
