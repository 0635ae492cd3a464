/- For every slice of bytes the law FnConfirms returns true; no condition; the listed variables are the library's own, tied. -/
import Derived.Test.YtbegecoocgkbiaaGreatDoorM48
import Derived.Test.YtbegecoocgkbiaaGreatDoorLaf
import Derived.Test.YtbegecoocgkbiaaGreatDoorCfa
import Derived.Test.YtbegecoocgkbiaaGreatDoorPog
import Derived.Test.YtbegecoocgkbiaaGreatDoorDir
import Derived.Test.YtbegecoocgkbiaaGreatDoorCsf
import Derived.Test.YtbegecoocgkbiaaGreatDoorPth
import Derived.Test.YtbegecoocgkbiaaGreatDoorSlh
import Derived.Test.YtbegecoocgkbiaaGreatDoorFrc
import Derived.Test.YtbegecoocgkbiaaGreatDoorLsm
import Derived.Test.YtbegecoocgkbiaaGreatDoorDto
import Derived.Test.YtbegecoocgkbiaaGreatDoorNam
import Derived.Test.YtbegecoocgkbiaaGreatDoorM1
import Derived.Deep.CutRange
import Derived.Great.Walk
import Derived.Test.YtbegecoocgkbiaaGreatDoorTie
import Derived.Test.YtbegecoocgkbiaaGreatDoorCards
import Derived.Lay
import Derived.LaidLaws
import Derived.SevenTiedAt
import Derived.LaidMore
namespace Go.Proofs.YtbegecoocgkbiaaGreatDoor.fnConfirms
open Go.ChangeShapes Go.WideShapes Go.ChangeAt Go.RowKit
open Go.ChangeMaps (open_string shut_string)
set_option linter.unusedVariables false

theorem rds_lit {w : World} {g : Nat} {t : TypeId} {xs : List Value} (h : w.heap[g]? = some (.cells xs.toArray t (0, 0))) (hg : g < w.heap.size) : Rds w w.heap.size (some ⟨g, 0, none⟩) xs := fun k u hu => by
  refine ⟨_, rfl, hg, ?_⟩
  rw [show (⟨g, 0, none⟩ : Addr).add k = ⟨g, k, none⟩ from by unfold Addr.add; split <;> simp_all]
  have h1 := cell_of_row w g k xs.toArray t (0, 0) h
  rw [h1]
  simpa using hu
set_option maxRecDepth 8000 in
set_option maxHeartbeats 40000000 in
theorem walk (A : Option Addr) (n c : Nat) (l : List UInt8) (w : World) (hin : BytesIn w A n c l) (hsh : w.ShapedOpen Tryz.prog) (hL : laidMet Tryz.prog Rows.fnConfirmsRow.laid w) :
    Calls Tryz.prog 3 #[.slice A n c] w fun e w' => e = .returned (.bool true) ∧ Below w.heap.size w w' := by
  have m0 := Lib.hid (MlS.of hsh)
  have n0 := Lib.hid (MlOk.of hsh)
  have t0 := Lib.hid (TB.of_headC hL.tail.tail)
  clear hsh hL hin
  by_cases h1 : 1048576 < n
  · go_enter Tryz.func3, Tryz.ntmps3
    go_wp2_with fail
    go_ret
    exact ⟨rfl, Below.refl _ _⟩
  have hnf := fun u h => iNamed_any fibN u h
  rw [psL_F, psV_F, show zF.length = 2 from rfl] at hnf
  have hnt := fun u h => iNamed_any thueN u h
  rw [psL_T, psV_T, show zT.length = 2 from rfl] at hnt
  have HNF := Lib.hid hnf; have HNT := Lib.hid hnt
  clear hnf hnt
  go_enter Tryz.func3, Tryz.ntmps3
  go_wp2_with fail
  refine (HNF.out w m0.out).mono ?_
  rintro e w1 ⟨A1, c1, rfl, o1, b1⟩
  obtain ⟨g1, rfl⟩ := own_block o1 (by decide)
  have hc1 : 2 ≤ c1 := by
    obtain ⟨_, _, hv, h2, _, _⟩ := o1.shape
    injection hv with e1 e2 e3
    rw [← e3] at h2; exact h2
  have r1 := o1.reads
  have aA := (Below.refl w1.heap.size w1).alloc (Nat.le_refl _) (.cells #[.slice (some ⟨g1, 0, none⟩) 2 c1] 25)
  have zA : (w1.alloc (.cells #[.slice (some ⟨g1, 0, none⟩) 2 c1] 25)).heap.size = w1.heap.size + 1 := by simp
  have qA := heap_alloc_new w1 (.cells #[.slice (some ⟨g1, 0, none⟩) 2 c1] 25)
  have bA := b1.trans (aA.mono b1.size)
  have HR1 := Lib.hid r1
  clear o1 r1
  go_wp2_with fail
  refine (HNT.out _ (m0.out.below bA)).mono ?_
  rintro e w2 ⟨A2, c2, rfl, o2, b2⟩
  obtain ⟨g2, rfl⟩ := own_block o2 (by decide)
  have hc2 : 2 ≤ c2 := by
    obtain ⟨_, _, hv, h2, _, _⟩ := o2.shape
    injection hv with e1 e2 e3
    rw [← e3] at h2; exact h2
  have r2 := o2.reads
  have z2 := b2.size
  rw [zA] at z2
  have aB := (Below.refl w2.heap.size w2).alloc (Nat.le_refl _) (.cells #[.slice (some ⟨g2, 0, none⟩) 2 c2] 25)
  have zB : (w2.alloc (.cells #[.slice (some ⟨g2, 0, none⟩) 2 c2] 25)).heap.size = w2.heap.size + 1 := by simp
  have qB := heap_alloc_new w2 (.cells #[.slice (some ⟨g2, 0, none⟩) 2 c2] 25)
  have q1 := (aB.block w1.heap.size (by omega)).trans ((b2.block w1.heap.size (by rw [zA]; omega)).trans qA)
  have b2m : Below w1.heap.size w1 w2 := aA.trans (b2.mono (by rw [zA]; omega))
  have b3 := bA.trans (b2.mono bA.size)
  have bB := b3.trans (aB.mono b3.size)
  have RF : Hid (∀ u, Below (w2.alloc (.cells #[.slice (some ⟨g2, 0, none⟩) 2 c2] 25)).heap.size (w2.alloc (.cells #[.slice (some ⟨g2, 0, none⟩) 2 c2] 25)) u → w1.heap.size ≤ u.heap.size ∧ Rds u w1.heap.size (some ⟨g1, 0, none⟩) (zF.map Value.string)) := Lib.hid (fun u hu => ⟨by have := hu.size; omega, HR1.out.below (b2m.trans ((aB.mono (by omega)).trans (hu.mono (by omega)))) (Nat.le_refl _)⟩)
  have RT : Hid (∀ u, Below (w2.alloc (.cells #[.slice (some ⟨g2, 0, none⟩) 2 c2] 25)).heap.size (w2.alloc (.cells #[.slice (some ⟨g2, 0, none⟩) 2 c2] 25)) u → w2.heap.size ≤ u.heap.size ∧ Rds u w2.heap.size (some ⟨g2, 0, none⟩) (zT.map Value.string)) := Lib.hid (fun u hu => ⟨by have := hu.size; omega, r2.below (aB.trans (hu.mono (by omega))) (Nat.le_refl _)⟩)
  have KF : Hid (∀ u, Below (w2.alloc (.cells #[.slice (some ⟨g2, 0, none⟩) 2 c2] 25)).heap.size (w2.alloc (.cells #[.slice (some ⟨g2, 0, none⟩) 2 c2] 25)) u → u.cell? ⟨w1.heap.size, 0, none⟩ = some (.slice (some ⟨g1, 0, none⟩) 2 c1) ∧ u.cell? ⟨w2.heap.size, 0, none⟩ = some (.slice (some ⟨g2, 0, none⟩) 2 c2)) := Lib.hid (fun u hu => ⟨(hu.cell (p := ⟨w1.heap.size, 0, none⟩) (by show w1.heap.size < _; omega)).trans (cell_of_row _ _ 0 _ _ (0, 0) q1), (hu.cell (p := ⟨w2.heap.size, 0, none⟩) (by show w2.heap.size < _; omega)).trans (cell_of_row _ _ 0 _ _ (0, 0) qB)⟩)
  have TW : Hid (∀ u, Below (w2.alloc (.cells #[.slice (some ⟨g2, 0, none⟩) 2 c2] 25)).heap.size (w2.alloc (.cells #[.slice (some ⟨g2, 0, none⟩) 2 c2] 25)) u → TB u ∧ MlOk u ∧ Below w.heap.size w u) := Lib.hid (fun u hu => ⟨t0.out.below (bB.trans (hu.mono bB.size)), n0.out.below (bB.trans (hu.mono bB.size)), bB.trans (hu.mono bB.size)⟩)
  clear q1 qA qB r2 o2 b2m b3 aA aB bA bB zA b1 b2 z2 HR1 HNF HNT m0 n0 t0
  obtain ⟨k0a, k0b⟩ := KF.out _ (Below.refl _ _)
  go_wp2_with fail
  generalize (w2.alloc (.cells #[.slice (some ⟨g2, 0, none⟩) 2 c2] 25)) = w3 at RF RT KF TW zB k0a k0b ⊢
  have K0 : Below w3.heap.size w3 w3 := Below.refl _ _
  obtain ⟨SF, hSF⟩ : ∃ s, sF = s := ⟨_, rfl⟩
  obtain ⟨ST, hST⟩ : ∃ s, sT = s := ⟨_, rfl⟩
  have hff := fun u r hb => iFixedPoint_yes zF (some ⟨g1, 0, none⟩) 2 c1 w1.heap.size { data := #[97] } 300 u rfl (by decide) (by unfold maxLen; decide) su_F gr_F r hb
  rw [lF_fix, show strOf lF = SF from hSF] at hff
  have hft := fun u r hb => iFixedPoint_yes zT (some ⟨g2, 0, none⟩) 2 c2 w2.heap.size { data := #[97] } 300 u rfl (by decide) (by unfold maxLen; decide) su_T gr_T r hb
  rw [lT_fix, show strOf lT = ST from hST] at hft
  have hlf := fun u r hb => laf_F g1 c1 w1.heap.size u r hb
  have hlt := fun u r hb => laf_T g2 c2 w2.heap.size u r hb
  have hwF : isW (L SF) = true := by rw [← hSF, sF, strOf_L]; exact lF_w
  have hwT : isW (L ST) = true := by rw [← hST, sT, strOf_L]; exact lT_w
  have hzF : SF.size = 300 := by rw [← hSF, sF, strOf_size, lF_len]
  have hzT : ST.size = 300 := by rw [← hST, sT, strOf_size, lT_len]
  have HFF := Lib.hid hff; have HFT := Lib.hid hft; have HLF := Lib.hid hlf; have HLT := Lib.hid hlt; have HWF := Lib.hid hwF; have HWT := Lib.hid hwT; have HSF := Lib.hid hSF; have HST := Lib.hid hST
  clear hff hft hlf hlt hwF hwT hSF hST
  refine (HFF.out w3 (RF.out _ K0).2 (RF.out _ K0).1).mono ?_
  rintro e w4 ⟨rfl, b4⟩
  have K1 := K0.trans (b4.mono K0.size)
  obtain ⟨k1a, k1b⟩ := KF.out _ K1
  clear b4 k0a k0b HFF
  go_wp2_with fail
  refine (HFT.out w4 (RT.out _ K1).2 (RT.out _ K1).1).mono ?_
  rintro e w5 ⟨rfl, b5⟩
  have K2 := K1.trans (b5.mono K1.size)
  obtain ⟨k2a, k2b⟩ := KF.out _ K2
  clear b5 k1a k1b K1 HFT
  go_upto_region 7 with fail
  go_cut [65] from 42 to 65 (fun cc wx => cc = .bool false ∧ Below w3.heap.size w3 wx)
  case first => as_aux_lemma =>
    --SEG 1
    go_wp2_with fail
    refine (HLF.out w5 (RF.out _ K2).2 (RF.out _ K2).1).mono ?_
    rintro e w6 ⟨rfl, b6⟩
    have K3 := K2.trans (b6.mono K2.size)
    obtain ⟨k3a, k3b⟩ := KF.out _ K3
    clear b6 k2a k2b
    go_wp2_with fail
    refine (HLT.out w6 (RT.out _ K3).2 (RT.out _ K3).1).mono ?_
    rintro e w7 ⟨rfl, b7⟩
    have K4 := K3.trans (b7.mono K3.size)
    go_wp2_with fail
    go_meet
    case rel => exact ⟨rfl, K4⟩
    --END
  case rest =>
  obtain ⟨rfl, K4⟩ := hcut
  obtain ⟨w7, rfl⟩ : ∃ z : World, z = wc := ⟨_, rfl⟩
  clear K2 k2a k2b HLF HLT
  go_wp2_with fail
  go_loopw [11] (fun i wr => ∃ k : Nat, 1 ≤ k ∧ k ≤ 9 ∧ i = .int .i64 k ∧ Below w3.heap.size w3 wr) (fun i _ => 10 - (intOf i).toNat)
  case atStart => exact ⟨1, by omega, by omega, rfl, K4⟩
  case round =>
    clear K4
    obtain ⟨k, hk1, hk9, rfl, hK⟩ := hrel
    by_cases hk8 : k ≤ 8
    · --SEG 2
      have hk8i : (k : Int) ≤ 8 := by omega
      have hcp := fun u => iCpx_yes SF k HWF.out hk1 (by omega) u
      have hrs := fun u h => right_is SF k HWF.out hk1 (by omega) u h
      obtain ⟨h2, h3⟩ := cpxF k hk1 hk8
      rw [HSF.out] at h2 h3
      rw [h2] at hcp
      rw [h3] at hrs
      rw [show ((k + 1 : Nat) : Int) = (k : Int) + 1 by omega] at hcp
      have HCP := Lib.hid hcp; have HRS := Lib.hid hrs
      clear hcp hrs h2 h3
      go_wp2_with fail
      refine (HCP.out wr).mono ?_
      rintro e u1 ⟨rfl, d1⟩
      have Z1 := hK.trans (d1.mono hK.size)
      go_wp2_with fail
      refine (HRS.out u1 (TW.out _ Z1).2.1).mono ?_
      rintro e u2 ⟨Ar, cr, rfl, d2⟩
      have Z2 := Z1.trans (d2.mono Z1.size)
      go_wp2_with fail
      go_roundw
      case rel => exact ⟨k + 1, by omega, by omega, by go_num, Z2⟩
      case measure => simp [intOf]; omega
      --END
    · have hk9' : k = 9 := by omega
      subst hk9'
      obtain ⟨w8, rfl⟩ : ∃ z : World, z = wr := ⟨_, rfl⟩
      go_upto_region 14 with fail
      go_cut [128] from 83 to 128 (fun cc wx => cc = .bool false ∧ Below w3.heap.size w3 wx)
      case first => as_aux_lemma =>
        --SEG 3
        have p1 := fun u => iCpx_yes ST 1 HWT.out (by decide) (by decide) u
        have p2 := fun u => iCpx_yes ST 2 HWT.out (by decide) (by decide) u
        have p3 := fun u => iCpx_yes ST 3 HWT.out (by decide) (by decide) u
        have p4 := fun u => iCpx_yes ST 4 HWT.out (by decide) (by decide) u
        have p5 := fun u => iCpx_yes ST 5 HWT.out (by decide) (by decide) u
        rw [← HST.out] at p1 p2 p3 p4 p5
        rw [cpxT1, show ((2 : Nat) : Int) = (2 : Int) from rfl] at p1
        rw [cpxT2, show ((4 : Nat) : Int) = (4 : Int) from rfl] at p2
        rw [cpxT3, show ((6 : Nat) : Int) = (6 : Int) from rfl] at p3
        rw [cpxT4, show ((10 : Nat) : Int) = (10 : Int) from rfl] at p4
        rw [cpxT5, show ((12 : Nat) : Int) = (12 : Int) from rfl] at p5
        rw [HST.out] at p1 p2 p3 p4 p5
        have hsm := fun a b u hx hy => lsame_same [2, 4, 6, 10, 12] (some ⟨a, 0, none⟩) (some ⟨b, 0, none⟩) 5 5 (World.heap u).size (World.heap u).size 5 u rfl (by decide) hx hy
        have hb1 := fun u => iBlc_yes (strOf l100) (by rw [strOf_L]; exact l100_w) u
        have hb2 := fun u => iBlc_yes (strOf l30) (by rw [strOf_L]; exact l30_w) u
        rw [bal100] at hb1
        rw [bal30] at hb2
        have ex1 : SF.extract 0 100 = strOf l100 := by rw [← HSF.out]; exact ext_F
        have ex2 : ST.extract 0 30 = strOf l30 := by rw [← HST.out]; exact ext_T
        obtain ⟨S100, h100⟩ : ∃ s, strOf l100 = s := ⟨_, rfl⟩
        obtain ⟨S30, h30⟩ : ∃ s, strOf l30 = s := ⟨_, rfl⟩
        rw [h100] at hb1 ex1
        rw [h30] at hb2 ex2
        have hov := fun u => iOvf_yes ST HWT.out u
        rw [show powB ST 1 = false by rw [← HST.out]; exact powT] at hov
        have hcu := fun u => cubeFree_no SF HWF.out (by rw [← HSF.out]; exact cubF) u
        have hmF := fun u r hb => iMatrixOf_yes zF (some ⟨g1, 0, none⟩) 2 c1 w1.heap.size u rfl su_F r hb
        have hmT := fun u r hb => iMatrixOf_yes zT (some ⟨g2, 0, none⟩) 2 c2 w2.heap.size u rfl su_T r hb
        have sqF : sqM 2 (mtL zF) := mt_sq (zs := zF) (su_img su_F).2
        have sqT : sqM 2 (mtL zT) := mt_sq (zs := zT) (su_img su_T).2
        have hdF := fun g c B u hg hc hb => iDetOf_yes 2 (mtL zF) (by decide) (by decide) sqF g c B u hg hc hb
        have hdT := fun g c B u hg hc hb => iDetOf_yes 2 (mtL zT) (by decide) (by decide) sqT g c B u hg hc hb
        rw [suD_F] at hdF
        rw [suD_T] at hdT
        have P1 := Lib.hid p1; have P2 := Lib.hid p2; have P3 := Lib.hid p3; have P4 := Lib.hid p4; have P5 := Lib.hid p5; have HSM := Lib.hid hsm; have HB1 := Lib.hid hb1; have HB2 := Lib.hid hb2; have HOV := Lib.hid hov; have HCU := Lib.hid hcu; have HMF := Lib.hid hmF; have HMT := Lib.hid hmT; have HDF := Lib.hid hdF; have HDT := Lib.hid hdT
        clear p1 p2 p3 p4 p5 hsm hb1 hb2 hov hcu hmF hmT sqF sqT hdF hdT h100 h30
        go_wp2_with fail
        refine (P1.out w8).mono ?_
        rintro e u1 ⟨rfl, d⟩
        have Z1 := hK.trans (d.mono hK.size)
        clear d
        go_wp2_with fail
        refine (P2.out u1).mono ?_
        rintro e u2 ⟨rfl, d⟩
        have Z2 := Z1.trans (d.mono Z1.size)
        clear d
        go_wp2_with fail
        refine (P3.out u2).mono ?_
        rintro e u3 ⟨rfl, d⟩
        have Z3 := Z2.trans (d.mono Z2.size)
        clear d
        go_wp2_with fail
        refine (P4.out u3).mono ?_
        rintro e u4 ⟨rfl, d⟩
        have Z4 := Z3.trans (d.mono Z3.size)
        clear d
        go_wp2_with fail
        refine (P5.out u4).mono ?_
        rintro e u5 ⟨rfl, d⟩
        have Z5 := Z4.trans (d.mono Z4.size)
        clear d
        go_wp2_with (refine Great.wpList_buildSliceTo rfl 34 3 5 _ rfl _ rfl _ rfl (by as_aux_lemma => kernel_rfl) #[.int .i64 2, .int .i64 4, .int .i64 6, .int .i64 10, .int .i64 12] (by as_aux_lemma => kernel_rfl) ?_; simp only [Act.put, List.setIfInBounds_toArray, List.set_cons_succ, List.set_cons_zero])
        have qa := heap_alloc_old (u5.alloc (.cells #[.int .i64 2, .int .i64 4, .int .i64 6, .int .i64 10, .int .i64 12] 3)) (.cells #[.int .i64 2, .int .i64 4, .int .i64 6, .int .i64 10, .int .i64 12] 3) (show u5.heap.size < _ by simp)
        have qa1 := qa.trans (heap_alloc_new u5 (.cells #[.int .i64 2, .int .i64 4, .int .i64 6, .int .i64 10, .int .i64 12] 3))
        have qb1 := heap_alloc_new (u5.alloc (.cells #[.int .i64 2, .int .i64 4, .int .i64 6, .int .i64 10, .int .i64 12] 3)) (.cells #[.int .i64 2, .int .i64 4, .int .i64 6, .int .i64 10, .int .i64 12] 3)
        have z5 : (u5.alloc (.cells #[.int .i64 2, .int .i64 4, .int .i64 6, .int .i64 10, .int .i64 12] 3)).heap.size = u5.heap.size + 1 := by simp
        rw [z5] at qb1
        have z6 : ((u5.alloc (.cells #[.int .i64 2, .int .i64 4, .int .i64 6, .int .i64 10, .int .i64 12] 3)).alloc (.cells #[.int .i64 2, .int .i64 4, .int .i64 6, .int .i64 10, .int .i64 12] 3)).heap.size = u5.heap.size + 1 + 1 := by simp
        have Z6 := (Z5.alloc Z5.size (.cells #[.int .i64 2, .int .i64 4, .int .i64 6, .int .i64 10, .int .i64 12] 3)).alloc (by rw [z5]; have := Z5.size; omega) (.cells #[.int .i64 2, .int .i64 4, .int .i64 6, .int .i64 10, .int .i64 12] 3)
        have HX := Lib.hid (HSM.out u5.heap.size (u5.heap.size + 1) _ (rds_lit (xs := [.int .i64 2, .int .i64 4, .int .i64 6, .int .i64 10, .int .i64 12]) qa1 (by rw [z6]; omega)) (rds_lit (xs := [.int .i64 2, .int .i64 4, .int .i64 6, .int .i64 10, .int .i64 12]) qb1 (by rw [z6]; omega)))
        clear qa qa1 qb1 z5 z6 Z5 Z4 Z3 Z2 Z1 HSM
        refine HX.out.mono ?_
        rintro e u7 ⟨rfl, d⟩
        have Z7 := Z6.trans (d.below.mono Z6.size)
        have hz100 : (100 : Int) ≤ (SF.size : Int) := by omega
        have hz30 : (30 : Int) ≤ (ST.size : Int) := by omega
        clear d Z6 HX
        go_wp2_with fail
        try rw [ex1]
        refine (HB1.out u7).mono ?_
        rintro e u8 ⟨rfl, d⟩
        have Z8 := Z7.trans (d.mono Z7.size)
        clear d Z7
        go_wp2_with fail
        try rw [ex2]
        refine (HB2.out u8).mono ?_
        rintro e u9 ⟨rfl, d⟩
        have Z9 := Z8.trans (d.mono Z8.size)
        clear d Z8
        go_wp2_with fail
        refine (HOV.out u9).mono ?_
        rintro e u10 ⟨rfl, d⟩
        have Z10 := Z9.trans (d.mono Z9.size)
        clear d Z9
        go_wp2_with fail
        refine (HCU.out u10).mono ?_
        rintro e u11 ⟨rfl, d⟩
        have Z11 := Z10.trans (d.mono Z10.size)
        obtain ⟨k11a, k11b⟩ := KF.out _ Z11
        clear d Z10
        go_wp2_with fail
        refine (HMF.out u11 (RF.out _ Z11).2 (RF.out _ Z11).1).mono ?_
        rintro e u12 ⟨gm, cm, vm, rfl, hbm, d⟩
        have Z12 := Z11.trans (d.mono Z11.size)
        have HGM := Lib.hid hbm.gr; have hcm := hbm.cap.1
        clear d Z11 k11a k11b hbm
        go_wp2_with fail
        refine (HDF.out gm cm _ u12 HGM.out hcm (Nat.le_refl _)).mono ?_
        rintro e u13 ⟨rfl, d⟩
        have Z13 := Z12.trans (d.mono Z12.size)
        obtain ⟨k13a, k13b⟩ := KF.out _ Z13
        clear d Z12 HGM hcm
        go_wp2_with fail
        refine (HMT.out u13 (RT.out _ Z13).2 (RT.out _ Z13).1).mono ?_
        rintro e u14 ⟨gm2, cm2, vm2, rfl, hbm2, d⟩
        have Z14 := Z13.trans (d.mono Z13.size)
        have HGM2 := Lib.hid hbm2.gr; have hcm2 := hbm2.cap.1
        clear d Z13 k13a k13b hbm2
        go_wp2_with fail
        refine (HDT.out gm2 cm2 _ u14 HGM2.out hcm2 (Nat.le_refl _)).mono ?_
        rintro e u15 ⟨rfl, d⟩
        have Z15 := Z14.trans (d.mono Z14.size)
        clear d Z14 HGM2 hcm2
        go_wp2_with fail
        go_meet
        case rel => exact ⟨rfl, Z15⟩
        --END
      case rest =>
      obtain ⟨rfl, Z15⟩ := hcut
      obtain ⟨w9, rfl⟩ : ∃ z : World, z = wc := ⟨_, rfl⟩
      have BZ := (TW.out _ Z15).2.2
      have TZ := Lib.hid (fun u (hu : Below w3.heap.size w3 u) => TW.out u hu)
      clear hK KF RF RT
      --SEG 4
      go_wp2_with fail
      refine (dir_abab w9).mono ?_
      rintro e v1 ⟨rfl, d⟩
      have Y1 := Z15.trans (d.mono Z15.size)
      clear d Z15 BZ
      go_wp2_with fail
      refine (pog_10 v1).mono ?_
      rintro e v2 ⟨rfl, d⟩
      have Y2 := Y1.trans (d.mono Y1.size)
      clear d Y1
      have qg := heap_alloc_new v2 (.cells #[.int .i64 34, .int .i64 55] 41)
      have ag := (Below.refl v2.heap.size v2).alloc (Nat.le_refl _) (.cells #[.int .i64 34, .int .i64 55] 41)
      have zg : (v2.alloc (.cells #[.int .i64 34, .int .i64 55] 41)).heap.size = v2.heap.size + 1 := by simp
      have Y3 := Y2.trans (ag.mono Y2.size)
      have KG : Hid (∀ u, Below (v2.alloc (.cells #[.int .i64 34, .int .i64 55] 41)).heap.size (v2.alloc (.cells #[.int .i64 34, .int .i64 55] 41)) u → u.cell? ⟨v2.heap.size, 0, none⟩ = some (.int .i64 34) ∧ u.cell? ⟨v2.heap.size, 1, none⟩ = some (.int .i64 55)) := Lib.hid (fun u hu => ⟨(hu.cell (p := ⟨v2.heap.size, 0, none⟩) (by show v2.heap.size < _; omega)).trans (cell_of_row _ _ 0 _ _ (0, 0) qg), (hu.cell (p := ⟨v2.heap.size, 1, none⟩) (by show v2.heap.size < _; omega)).trans (cell_of_row _ _ 1 _ _ (0, 0) qg)⟩)
      clear qg ag Y2
      go_wp2_with fail
      generalize (v2.alloc (.cells #[.int .i64 34, .int .i64 55] 41)) = v3 at KG Y3 zg ⊢
      have G0 : Below v3.heap.size v3 v3 := Below.refl _ _
      have hsw := fun u => iSelf_12 u
      rw [shW_eq] at hsw
      have HSW := Lib.hid hsw
      clear hsw
      go_wp2_with fail
      refine (HSW.out v3).mono ?_
      rintro e v4 ⟨rfl, d⟩
      have G1 := G0.trans (d.mono G0.size)
      clear d G0 HSW
      have ql := heap_alloc_new v4 (.cells #[.int .i64 1, .int .i64 1, .int .i64 1, .int .i64 1, .int .i64 1] 3)
      have al := (Below.refl v4.heap.size v4).alloc (Nat.le_refl _) (.cells #[.int .i64 1, .int .i64 1, .int .i64 1, .int .i64 1, .int .i64 1] 3)
      have zl : (v4.alloc (.cells #[.int .i64 1, .int .i64 1, .int .i64 1, .int .i64 1, .int .i64 1] 3)).heap.size = v4.heap.size + 1 := by simp
      have G2 := G1.trans (al.mono G1.size)
      have HFR := Lib.hid (frac_5 v4.heap.size _ _ (rds_lit (xs := ones) ql (by rw [zl]; omega)) (Nat.le_refl _))
      clear ql al zl G1
      go_wp2_with fail
      refine HFR.out.mono ?_
      rintro e v5 ⟨rfl, d⟩
      have G3 := G2.trans (d.mono G2.size)
      clear d G2 HFR
      have hpx := fun u => iPal_yes { data := #[97, 98, 97, 97, 98, 97, 98, 97, 97, 98, 97] } (by decide +kernel) u
      rw [pal_x] at hpx
      have HPX := Lib.hid hpx
      clear hpx
      go_wp2_with fail
      refine (HPX.out v5).mono ?_
      rintro e v6 ⟨rfl, d⟩
      have G4 := G3.trans (d.mono G3.size)
      obtain ⟨kga, kgb⟩ := KG.out _ G4
      clear d G3 HPX
      go_wp2_with fail
      refine (lyn_26 v6).mono ?_
      rintro e v7 ⟨rfl, d⟩
      have G5 := G4.trans (d.below.mono G4.size)
      clear d G4
      go_wp2_with fail
      refine (bal_8 v7).mono ?_
      rintro e v8 ⟨rfl, d⟩
      have G6 := G5.trans (d.below.mono G5.size)
      clear d G5
      go_wp2_with fail
      refine (csf_36 v8).mono ?_
      rintro e v9 ⟨rfl, d⟩
      have G7 := G6.trans (d.below.mono G6.size)
      clear d G6
      have hnu := fun u => iNumeralOf_any 100 (by decide) u
      rw [num_100] at hnu
      have HNU := Lib.hid hnu
      clear hnu
      go_wp2_with fail
      refine (HNU.out v9).mono ?_
      rintro e v10 ⟨rfl, d⟩
      have G8 := G7.trans (d.mono G7.size)
      clear d G7 HNU
      have hlo := fun u => iLowerOf_yes 10 (by decide) (by decide) u
      have hup := fun u => iUpperOf_yes 10 (by decide) (by decide) u
      rw [low_10] at hlo hup
      have HLO := Lib.hid hlo; have HUP := Lib.hid hup
      clear hlo hup
      go_wp2_with fail
      refine (HLO.out v10).mono ?_
      rintro e v11 ⟨rfl, d⟩
      have G9 := G8.trans (d.mono G8.size)
      clear d G8 HLO
      go_wp2_with fail
      refine (HUP.out v11).mono ?_
      rintro e v12 ⟨rfl, d⟩
      have G10 := G9.trans (d.mono G9.size)
      clear d G9 HUP
      have hcl := fun u => iClassOf_any 7 (by decide) u
      rw [ds_7] at hcl
      have HCL := Lib.hid hcl
      clear hcl
      go_wp2_with fail
      refine (HCL.out v12).mono ?_
      rintro e v13 ⟨rfl, rfl⟩
      go_wp2_with fail
      refine (path_37 _).mono ?_
      rintro e v14 ⟨rfl, d⟩
      have G11 := G10.trans (d.mono G10.size)
      clear d G10
      have hed := fun u => iEdit_yes { data := #[97, 98, 99, 97, 98] } { data := #[98, 99, 97, 98] } (by unfold maxLen; decide) (by unfold maxLen; decide) (by decide +kernel) (by decide +kernel) (by decide) (by decide) u
      rw [show ed (L { data := #[97, 98, 99, 97, 98] }) (L { data := #[98, 99, 97, 98] }) (ByteArray.size { data := #[97, 98, 99, 97, 98] }) (ByteArray.size { data := #[98, 99, 97, 98] }) = 1 from ed_1] at hed
      have HED := Lib.hid hed
      clear hed
      go_wp2_with fail
      refine (HED.out v14).mono ?_
      rintro e v15 ⟨rfl, d⟩
      have G12 := G11.trans (d.mono G11.size)
      clear d G11 HED
      have qc := heap_alloc_new v15 (.cells #[.string { data := #[98, 98] }] 9)
      have ac := (Below.refl v15.heap.size v15).alloc (Nat.le_refl _) (.cells #[.string { data := #[98, 98] }] 9)
      have zc : (v15.alloc (.cells #[.string { data := #[98, 98] }] 9)).heap.size = v15.heap.size + 1 := by simp
      have G13 := G12.trans (ac.mono G12.size)
      have Y4 := Y3.trans (G13.mono Y3.size)
      have hca := iCa_any 2 10 [({ data := #[98, 98] } : ByteArray)] (some ⟨v15.heap.size, 0, none⟩) 1 (v15.alloc (.cells #[.string { data := #[98, 98] }] 9)) (by decide) (fun s hs => by simp at hs; subst hs; unfold maxLen; decide) (rds_lit (xs := [Value.string { data := #[98, 98] }]) qc (by rw [zc]; omega)) (TZ.out _ Y4).2.1 (TZ.out _ Y4).1
      rw [ca_144] at hca
      have HCA := Lib.hid hca
      clear hca qc ac zc
      go_wp2_with fail
      refine HCA.out.mono ?_
      rintro e v16 ⟨rfl, d⟩
      have Y5 := Y4.trans (d.mono Y4.size)
      clear d Y4 HCA
      go_wp2_with fail
      go_ret
      exact ⟨by first | rfl | simp, (TZ.out _ Y5).2.2⟩
      --END

set_option maxRecDepth 100000 in
theorem lifted (os : Os) (started : os.Started) (H : Type) (enc : TypeId × Value → H) :
    ReturnsInHanded {} Tryz.checked os 3 .any (fun w args => (Rows.fnConfirmsSpec.pre enc Tryz.prog Tryz.f3 [] false w args ∧ laidMetH Tryz.prog Rows.fnConfirmsRow.laid w) ∧ sizedMet enc Tryz.prog Tryz.f3 (OpenSpec.ofChange Rows.fnConfirmsSpec) false w args) (Rows.fnConfirmsSpec.post enc Tryz.prog Tryz.f3 false true false false) := by
  refine handed_and_shaped (C := Tryz.checked) (X := fun w _ => laidMetH Tryz.prog Rows.fnConfirmsRow.laid w) (fun _ _ _ hh h => h.of_heap hh) own started (by kernel_rfl) Tryz.func3
    (ChangeSpec.witness_shaped (enc := enc) (C := Tryz.checked) (os := os) (X := fun w _ => laidMetH Tryz.prog Rows.fnConfirmsRow.laid w) false (World.laidAll Tryz.prog os Rows.fnConfirmsRow.laid) #[.slice none 0 0] 8 (World.laidAll_os _ _ _)
      (World.shaped_of_ZipB (by kernel_rfl) (by kernel_rfl)) (by kernel_rfl) (by kernel_rfl) (by kernel_rfl)
      (by rw [MakeChecks.laidMetH_plain _ _ _ (by kernel_rfl)]; exact laidMet_laidAll _ (by kernel_rfl) (by kernel_rfl))) ?_
  intro W base args ds gs before hval0 hW hL hsh
  rw [MakeChecks.laidMetH_plain _ _ _ (by kernel_rfl)] at hL
  have hval : ∀ (j : Nat) t v, Tryz.f3.params[j]? = some t → args[j]? = some v → Value.okWide Tryz.prog W .any base t v := hval0
  have hW' := hW
  obtain ⟨p, q, hA0, hV, rfl, hfz, hnd⟩ := hW
  have hA : DataW.TrodAll enc Tryz.prog W 0 (fun _ => true) true Tryz.f3.params.toList args.toList ds p := hA0
  rw [Tryz.params3] at hA hval
  obtain ⟨v0, vs0, d0, ds0, p0, q0, hargs, rfl, rfl, h0, r0⟩ := trodAll_cons hA
  obtain ⟨rfl, rfl, rfl⟩ := trodAll_nil r0
  obtain rfl : args = #[v0] := by cases args; simp_all
  obtain ⟨rfl, rfl⟩ := trodVars_none hV
  obtain ⟨s0, len0, cap0, rfl⟩ := okWide_slice Tryz.underlying22 (hval 0 22 v0 rfl rfl)
  have k0 := h0
  have lt0 : ∀ x ∈ p0, x.block < W.heap.size := by obtain ⟨m, hm⟩ := k0; exact DataW.trod_lt m _ _ _ hm
  obtain ⟨z0, w0⟩ : ∃ zs, BytesIn W s0 len0 cap0 zs := bytes_in Tryz.underlying22 Tryz.underlying5 (by kernel_rfl) h0 lt0
  clear hA0 hval0
  refine (walk s0 len0 cap0 z0 W w0 hsh hL).mono fun e W' ⟨he, bel⟩ => ?_
  subst he
  exact ⟨_, rfl, _, _, _, [], _, [], hW', trodAll_mk1 (shut_bool Tryz.underlying4 _), (trodAll_cons_mk (Below.trod laidOut (by kernel_rfl) (of_decide_eq_true (by kernel_rfl)) k0 bel lt0) trodAll_mk0), rfl, bel.frame _, fun h => by cases h⟩

theorem over : Rows.fnConfirmsRow.holds Tryz.pinned (OpenSpec.ofChange Rows.fnConfirmsSpec) :=
  OpenClaim.holds_of_wide 3 Tryz.f3 rfl rfl rfl rfl rfl rfl rfl ⟨rfl, rfl, rfl, rfl, rfl⟩ rfl rfl rfl rfl rfl (by kernel_rfl) Tryz.func3 (by kernel_rfl)
    (of_decide_eq_true (by kernel_rfl)) (by unfold Func.isWrapper; first | (rw [if_pos (by decide +kernel)]; kernel_rfl) | (rw [if_neg (by decide +kernel)]; exact ⟨rfl, rfl⟩))
    (fun os started H enc _ => lifted os started H enc)

theorem proved : Rows.FnConfirmsCardSaid :=
  Claim7.holds_tied_plain_at .later [] _ true _ _ over (fun _ h => by cases h) (by kernel_rfl) (fun _ h => by cases h) fnConfirms_row_tie rfl ⟨rfl, rfl⟩ (by kernel_rfl) rfl
    (fun f fn hf hfn => by
      obtain rfl : f = 3 := Option.some.inj ((show Tryz.prog.funcNamed "loop.example/g03209/laws.FnConfirms" = some 3 by kernel_rfl).symm.trans hf) |>.symm
      obtain rfl : fn = Tryz.f3 := (Option.some.inj (Tryz.func3.symm.trans hfn)).symm
      exact ⟨by kernel_rfl, fun j t ht => by
        rw [Tryz.params3] at ht
        have hm : t ∈ [22] := by simpa using Array.mem_of_getElem? ht
        have hall : ([22].all fun u => !Tryz.prog.wantsStandIn u) = true := by kernel_rfl
        exact (show Tryz.prog.wantsStandIn t = false by simpa using List.all_eq_true.1 hall t hm)⟩)
    (by kernel_rfl)
#print axioms proved
end Go.Proofs.YtbegecoocgkbiaaGreatDoor.fnConfirms
