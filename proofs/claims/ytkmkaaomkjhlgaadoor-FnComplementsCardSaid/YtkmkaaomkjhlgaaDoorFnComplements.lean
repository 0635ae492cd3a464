/- For every slice of bytes the law FnComplements returns true; no condition; the listed variables are the library's own, tied. -/
import Derived.Test.YtkmkaaomkjhlgaaDoorCmp
import Derived.Test.YtkmkaaomkjhlgaaDoorCmb
import Derived.Test.YtkmkaaomkjhlgaaDoorCmf
import Derived.Test.YtkmkaaomkjhlgaaDoorByi
import Derived.Test.YtkmkaaomkjhlgaaDoorDrw
import Derived.Test.YtkmkaaomkjhlgaaDoorFxp
import Derived.Test.YtkmkaaomkjhlgaaDoorNam
import Derived.Test.YtkmkaaomkjhlgaaDoorHsh
import Derived.Test.YtkmkaaomkjhlgaaDoorBeat
import Derived.Test.YtkmkaaomkjhlgaaDoorMiss
import Derived.Test.YtkmkaaomkjhlgaaDoorNum
import Derived.Test.YtkmkaaomkjhlgaaDoorMove
import Derived.Test.YtkmkaaomkjhlgaaDoorComp
import Derived.Test.YtkmkaaomkjhlgaaDoorLow
import Derived.Test.YtkmkaaomkjhlgaaDoorTie
import Derived.Test.YtkmkaaomkjhlgaaDoorCards
import Derived.Lay
import Derived.LaidLaws
import Derived.SevenTiedAt
import Derived.LaidMore
namespace Go.Proofs.YtkmkaaomkjhlgaaDoor.fnComplements
open Go.ChangeShapes Go.WideShapes Go.ChangeAt Go.RowKit
open Go.ChangeMaps (open_string shut_string)
set_option linter.unusedVariables false

set_option maxRecDepth 8000 in
set_option maxHeartbeats 40000000 in
theorem walk (A : Option Addr) (n c : Nat) (l : List UInt8) (w : World) (hin : BytesIn w A n c l) (hsh : w.ShapedOpen Tryd.prog) (hL : laidMet Tryd.prog Rows.fnComplementsRow.laid w) :
    Calls Tryd.prog 4 #[.slice A n c] w fun e w' => e = .returned (.bool true) ∧ Below w.heap.size w w' := by
  have m0 := Lib.hid (MlS.of hsh)
  clear hsh hL
  obtain ⟨hl, hnc, hcm, hrd⟩ := hin
  by_cases h1 : 1048576 < n
  · go_enter Tryd.func4, Tryd.ntmps4
    go_wp2_with fail
    go_ret
    exact ⟨rfl, Below.refl _ _⟩
  have hsz := fun v m lo hi h2 h3 h4 h5 hr hb => makeSize_any A n c w.heap.size m lo hi l v h2 h3 h4 h5 hl (by omega) hr hb
  have hnm := fun v m h2 hr hb => makeNum_any A n c w.heap.size m l v h2 hl (by omega) hr hb
  have HSZ := Lib.hid hsz; have HNM := Lib.hid hnm; have HRD := Lib.hid hrd
  clear hsz hnm hrd
  go_enter Tryd.func4, Tryd.ntmps4
  go_wp2_with fail
  refine (HSZ.out w 0 1 90 (by omega) (by omega) (by omega) (by omega) HRD.out (Nat.le_refl _)).mono ?_
  rintro e w1 ⟨x1, hx1, hx2, rfl, B1⟩
  go_wp2_with fail
  refine (HNM.out w1 4 (by omega) (HRD.out.below B1 (Nat.le_refl _)) B1.size).mono ?_
  rintro e w2 ⟨x2, hx3, rfl, b2⟩
  have B2 := B1.trans (b2.mono B1.size)
  clear b2 B1
  go_wp2_with fail
  obtain ⟨N, hN⟩ : ∃ N, (x1 : Int) + (x2 : Int) % 900 = N := ⟨_, rfl⟩
  rw [hN]
  have hN1 : 1 ≤ N := by omega
  have hN2 : N ≤ 989 := by omega
  clear hN hx1 hx2 hx3
  have f1 := low_ge N (by omega) (by omega)
  have f2 := low_le N (by omega) (by omega)
  have f3 := low_succ N (by omega) (by omega)
  have f4 := low_step N (by omega) (by omega)
  have f5 := low_low N (by omega) (by omega)
  have g1 : lostB (low N) (low N + N) = true := by
    rw [lost_iff]; left; rw [show low N + N - low N = N by omega]; exact ⟨by omega, rfl⟩
  have g2 : lostB (low N + N) (low N) = true := by rw [lost_sym]; exact g1
  have g3 : lostB (low N) (low N + N + 1) = false := by
    rw [Bool.eq_false_iff, Ne, lost_iff, show low N + N + 1 - low N = N + 1 by omega]; omega
  have g4 : lostB (low N + 1) (low N + N + 1) = false := by
    rw [Bool.eq_false_iff, Ne, lost_iff, show low N + N + 1 - (low N + 1) = N by omega]; omega
  have c1 := fun v => iLowerOf_yes N (by omega) (by omega) v
  have c2 := fun v => iUpperOf_yes N (by omega) (by omega) v
  have c3 := fun v => iIndexOf_lower (low N) N (by omega) (by omega) hN1 (by omega) rfl v
  have c4 := fun v => iIndexOf_upper (low N + N) N (by omega) (by omega) hN1 (by omega) rfl (fun M h0 h2 => low_ne_up N M (by omega) (by omega) h0 h2) v
  have c5 := fun v => iLowerOf_yes (N + 1) (by omega) (by omega) v
  have c6 := fun v => iLowerOf_yes (low N) (by omega) (by omega) v
  have d1 := fun v => iIsLosing_yes (low N) (low N + N) (by omega) (by omega) (by omega) (by omega) v
  have d2 := fun v => iIsLosing_yes (low N + N) (low N) (by omega) (by omega) (by omega) (by omega) v
  have d3 := fun v => iIsLosing_yes (low N) (low N + N + 1) (by omega) (by omega) (by omega) (by omega) v
  have d4 := fun v => iIsLosing_yes (low N + 1) (low N + N + 1) (by omega) (by omega) (by omega) (by omega) v
  rw [g1] at d1; rw [g2] at d2; rw [g3] at d3; rw [g4] at d4
  generalize low (N + 1) = lo2 at *
  generalize low (low N) = lo3 at *
  generalize low N = lo at *
  have C1 := Lib.hid c1; have C2 := Lib.hid c2; have C3 := Lib.hid c3; have C4 := Lib.hid c4; have C5 := Lib.hid c5; have C6 := Lib.hid c6
  have D1 := Lib.hid d1; have D2 := Lib.hid d2; have D3 := Lib.hid d3; have D4 := Lib.hid d4
  clear c1 c2 c3 c4 c5 c6 d1 d2 d3 d4 g1 g2 g3 g4
  refine (C1.out w2).mono ?_
  rintro e w3 ⟨rfl, b3⟩
  have B3 := B2.trans (b3.mono B2.size)
  clear b3 B2
  go_wp2_with fail
  refine (C2.out w3).mono ?_
  rintro e w4 ⟨rfl, b4⟩
  have B4 := B3.trans (b4.mono B3.size)
  clear b4 B3
  go_wp2_with fail
  refine (C3.out w4).mono ?_
  rintro e w5 ⟨rfl, b5⟩
  have B5 := B4.trans (b5.mono B4.size)
  clear b5 B4
  go_wp2_with fail
  refine (C4.out w5).mono ?_
  rintro e w6 ⟨rfl, b6⟩
  have B6 := B5.trans (b6.mono B5.size)
  clear b6 B5
  go_wp2_with fail
  refine (C5.out w6).mono ?_
  rintro e w7 ⟨rfl, b7⟩
  have B7 := B6.trans (b7.mono B6.size)
  clear b7 B6
  go_wp2_with fail
  refine (C5.out w7).mono ?_
  rintro e w8 ⟨rfl, b8⟩
  have B8 := B7.trans (b8.mono B7.size)
  clear b8 B7
  go_wp2_with fail
  refine (C6.out w8).mono ?_
  rintro e w9 ⟨rfl, b9⟩
  have B9 := B8.trans (b9.mono B8.size)
  clear b9 B8
  go_wp2_with fail
  refine (D1.out w9).mono ?_
  rintro e w10 ⟨rfl, b10⟩
  have B10 := B9.trans (b10.mono B9.size)
  clear b10 B9
  go_wp2_with fail
  refine (D2.out w10).mono ?_
  rintro e w11 ⟨rfl, b11⟩
  have B11 := B10.trans (b11.mono B10.size)
  clear b11 B10
  go_wp2_with fail
  refine (D3.out w11).mono ?_
  rintro e w12 ⟨rfl, b12⟩
  have B12 := B11.trans (b12.mono B11.size)
  clear b12 B11
  go_wp2_with fail
  refine (D4.out w12).mono ?_
  rintro e w13 ⟨rfl, b13⟩
  have B13 := B12.trans (b13.mono B12.size)
  clear b13 B12 C1 C2 C3 C4 C5 C6 D1 D2 D3 D4 f1 f2 f3 f4 f5
  go_wp2_with fail
  refine (HSZ.out w13 10 0 40 (by omega) (by omega) (by omega) (by omega) (HRD.out.below B13 (Nat.le_refl _)) B13.size).mono ?_
  rintro e w14 ⟨a, ha0, ha, rfl, b14⟩
  have B14 := B13.trans (b14.mono B13.size)
  clear b14 B13
  go_wp2_with fail
  refine (HSZ.out w14 11 0 40 (by omega) (by omega) (by omega) (by omega) (HRD.out.below B14 (Nat.le_refl _)) B14.size).mono ?_
  rintro e w15 ⟨b, hb0, hb, rfl, b15⟩
  have B15 := B14.trans (b15.mono B14.size)
  clear b15 B14 ha0 hb0
  go_wp2_with fail
  have hmv := mv_ok a b (by omega) (by omega)
  refine (iBestMove_yes a b (by omega) (by omega) w15).mono ?_
  rintro e w16 ⟨rfl, b16⟩
  have B16 := B15.trans (b16.mono B15.size)
  clear b16 B15
  obtain ⟨⟨x, y, ok⟩, hr⟩ : ∃ r, bmY (a : Int) b b 1 = r := ⟨_, rfl⟩
  rw [hr] at hmv ⊢
  obtain ⟨m1, m2, m3, m4, m5, m6, m7, m8⟩ := hmv
  simp only at m1 m2 m3 m4 m5 m6 m7 m8
  clear hr
  have d1 := fun v => iIsLosing_yes a b (by omega) (by omega) (by omega) (by omega) v
  have d2 := fun v => iIsLosing_yes b a (by omega) (by omega) (by omega) (by omega) v
  rw [lost_sym b a] at d2
  have d3 := fun v => iIsLosing_yes (a - x) (b - y) (by omega) (by omega) (by omega) (by omega) v
  have D1 := Lib.hid d1; have D2 := Lib.hid d2; have D3 := Lib.hid d3; have M8 := Lib.hid m8; have M7 := Lib.hid m7; have M6 := Lib.hid m6
  clear d1 d2 d3 m8 m7 m6
  unfold mvV
  go_wp2_with fail
  have hxy : x = 0 ∨ (0 < x ∧ y = 0) ∨ (0 < x ∧ 0 < y ∧ x = y) := by
    have := M7.out
    omega
  have hbz : 0 ≤ (a : Int) := by omega
  have haz : 0 ≤ (b : Int) := by omega
  generalize hlb : lostB (a : Int) b = L at *
  cases L
  case' true =>
    have hok : ok = false := m1
    subst hok
    clear m1 M6 M7 M8 hxy D3 hlb
    refine (D1.out w16).mono ?_
    rintro e w17 ⟨rfl, b17⟩
    have B17 := B16.trans (b17.mono B16.size)
    clear b17 B16
    go_wp2_with fail
    refine (D1.out w17).mono ?_
    rintro e w18 ⟨rfl, b18⟩
    have B18 := B17.trans (b18.mono B17.size)
    clear b18 B17
    go_wp2_with fail
    refine (D2.out w18).mono ?_
    rintro e w20 ⟨rfl, b20⟩
    have B20 := B18.trans (b20.mono B18.size)
    clear b20 B18 D1 D2
    go_wp2_with fail
  case' false =>
    have hok : ok = true := m1
    subst hok
    have hxy0 := M6.out rfl
    have hl8 := M8.out rfl
    rw [hl8] at D3
    clear m1 M6 M7 M8 hl8 hlb
    refine (D1.out w16).mono ?_
    rintro e w17 ⟨rfl, b17⟩
    have B17 := B16.trans (b17.mono B16.size)
    clear b17 B16
    go_wp2_with fail
    refine (D1.out w17).mono ?_
    rintro e w18 ⟨rfl, b18⟩
    have B18 := B17.trans (b18.mono B17.size)
    clear b18 B17
    go_wp2_with fail
    refine (D2.out w18).mono ?_
    rintro e w19 ⟨rfl, b19⟩
    have B19 := B18.trans (b19.mono B18.size)
    clear b19 B18 D1 D2
    rcases hxy with hx | ⟨hx, hy⟩ | ⟨hx, hy, hxe⟩
    case' inr.inr =>
      subst hxe
      have q0 : ¬ x + x = 0 := by omega
      have q1 : (x + x == 0) = false := beq_eq_false_iff_ne.2 q0
      go_wp2_with fail
      refine (D3.out w19).mono ?_
      rintro e w20 ⟨rfl, b20⟩
      have B20 := B19.trans (b20.mono B19.size)
      clear b20 B19 D3
      go_wp2_with fail
      all_goals try (rename_i hq; exfalso; omega)
    case' inr.inl =>
      subst hy
      have q0 : ¬ x = 0 := by omega
      have q1 : (x == 0) = false := beq_eq_false_iff_ne.2 q0
      simp only [Int.sub_zero] at D3
      go_wp2_with fail
      refine (D3.out w19).mono ?_
      rintro e w20 ⟨rfl, b20⟩
      have B20 := B19.trans (b20.mono B19.size)
      clear b20 B19 D3
      go_wp2_with fail
      all_goals try (rename_i hq; exfalso; omega)
    case' inl =>
      subst hx
      have q0 : ¬ y = 0 := by omega
      have q1 : (y == 0) = false := beq_eq_false_iff_ne.2 q0
      simp only [Int.sub_zero] at D3
      go_wp2_with fail
      refine (D3.out w19).mono ?_
      rintro e w20 ⟨rfl, b20⟩
      have B20 := B19.trans (b20.mono B19.size)
      clear b20 B19 D3
      go_wp2_with fail
      all_goals try (rename_i hq; exfalso; omega)
  all_goals
    refine (iLowerWord_yes 100 (by omega) w20).mono ?_
    rintro e w21 ⟨rfl, b21⟩
    have B21 := B20.trans (b21.mono B20.size)
    clear b21 B20 m2 m3 m4 m5 ha hb hbz haz
    obtain ⟨S, hS⟩ : ∃ S, strOf (lwW 100) = S := ⟨_, rfl⟩
    rw [hS]
    go_wp2_with fail
    refine (iNamed_fib w21 (m0.out.below B21)).mono ?_
    rintro e w22 ⟨A2, c2, rfl, o2, b22⟩
    have B22 := B21.trans (b22.mono B21.size)
    clear b22 B21 m0
    go_wp2_with fail
    have bA : Below w22.heap.size w22 (w22.alloc (.cells #[.slice A2 2 c2] 24)) := (Below.refl _ _).alloc (Nat.le_refl _) _
    refine (iFix_fib A2 c2 w22.heap.size _ (o2.below bA (Nat.le_refl _)) bA.size).mono ?_
    rintro e w23 ⟨rfl, b23⟩
    have B23 := (B22.trans (bA.mono B22.size)).trans (b23.mono (Nat.le_trans B22.size bA.size))
    clear b23 B22 bA o2
    rw [hS]
    go_wp2_with fail
    refine (HSZ.out w23 20 1 20 (by omega) (by omega) (by omega) (by omega) (HRD.out.below B23 (Nat.le_refl _)) B23.size).mono ?_
    rintro e w24 ⟨q, hq1, hq2, rfl, b24⟩
    have B24 := B23.trans (b24.mono B23.size)
    clear b24 B23
    go_wp2_with fail
    refine (HSZ.out w24 21 1 30 (by omega) (by omega) (by omega) (by omega) (HRD.out.below B24 (Nat.le_refl _)) B24.size).mono ?_
    rintro e w25 ⟨k0, hk1, hk2, rfl, b25⟩
    have B25 := B24.trans (b25.mono B24.size)
    clear b25 B24 HSZ HNM HRD
    go_wp2_with fail
    obtain ⟨p, hp⟩ : ∃ p, (q : Int) + (k0 : Int) = p := ⟨_, rfl⟩
    rw [hp]
    obtain ⟨q', hq'⟩ : ∃ q' : Int, (q : Int) = q' := ⟨_, rfl⟩
    rw [hq'] at hp ⊢
    have p1 : 1 ≤ q' := by omega
    have p2 : q' ≤ 20 := by omega
    have p3 : q' + 1 ≤ p := by omega
    have p4 : p ≤ q' + 30 := by omega
    clear hp hq' hq1 hq2 hk1 hk2
    obtain ⟨g, r, s, k0', k1, k2, k3, k4, k5, k6, k7, k8, k9⟩ := part_ok p q' p1 p3
    refine (iPartner_yes p q' p1 (by omega) p3 (by omega) w25).mono ?_
    rintro e w26 ⟨rfl, d26⟩
    rw [k1, k2]
    have B26 := B25.trans d26.below
    clear d26 B25 k1 k2
    obtain ⟨e1, e2⟩ := mul_bd (a := q') (b := r) (A := 20) (B := 50) (by omega) (by omega) p2 (by omega)
    obtain ⟨e3, e4⟩ := mul_bd (a := s) (b := p) (A := 50) (B := 50) (by omega) (by omega) (by omega) (by omega)
    obtain ⟨e5, e6⟩ := mul_bd (a := p) (b := r) (A := 50) (B := 50) (by omega) (by omega) (by omega) (by omega)
    have t1 : IntKind.i64.wrap (q' * r) = q' * r := IntWalk.i64_in _ (by omega)
    have t2 : IntKind.i64.wrap (s * p) = s * p := IntWalk.i64_in _ (by omega)
    have t3 : IntKind.i64.wrap (q' * r + s * p) = p * r := by rw [k9]; exact IntWalk.i64_in _ (by omega)
    have t4 : IntKind.i64.wrap (p * r) = p * r := IntWalk.i64_in _ (by omega)
    have K4 := Lib.hid k3; have K5 := Lib.hid k4
    clear k3 k4 k9
    go_wp2_with fail
    refine (iBeattyOf_yes p q' 60 p1 (by omega) (by omega) (by omega) (by omega) w26).mono ?_
    rintro e w27 ⟨A3, c3, rfl, o3, b27⟩
    have B27 := B26.trans (b27.mono B26.size)
    clear b27 B26 t1 t2 t3 t4 e1 e2 e3 e4 e5 e6
    obtain ⟨gb, rfl⟩ := own_block o3 (by omega)
    have hcell : ∀ (v : World) (k : Nat), Dr w27 v → k < 60 → v.cell? ⟨gb, k, none⟩ = some (.int .i64 (((k : Int) + 1) * p / q')) :=
      fun v k hd hk => rds_cell (o3.dr hd).reads (map_at (Value.int .i64) (bty_at p q' 60 k hk))
    have HC := Lib.hid hcell; have HO := Lib.hid o3
    clear hcell o3
    go_wp2_with fail
    go_loopw [27, 28, 273] (fun _ _ i wr => ∃ k : Nat, k ≤ 60 ∧ i = .int .i64 k ∧ Dr w27 wr) (fun _ _ i _ => 60 - (intOf i).toNat)
    case atStart => exact ⟨0, by omega, rfl, Dr.refl _⟩
    case round =>
      obtain ⟨k, hk, rfl, hd⟩ := hrel
      by_cases hlt : k < 60
      · have i1 := bty_ge p q' (by omega) (by omega) k
        have i0 := HC.out wr k hd hlt
        have hl2 : (k : Int) < 60 := by omega
        have hl3 : (0 : Int) ≤ (k : Int) := by omega
        obtain ⟨z, hz⟩ : ∃ z, ((k : Int) + 1) * p / q' = z := ⟨_, rfl⟩
        rw [hz] at i0 i1
        have i2 : decide (z < (k : Int) + 1) = false := decide_eq_false (by omega)
        cases k with
        | zero =>
          clear hz
          go_wp2_with fail
          go_roundw
          case rel => exact ⟨1, by omega, by go_num, hd⟩
          case measure => simp [intOf]
        | succ j =>
          have j1 := bty_lt p q' (by omega) (by omega) j
          have j0 := HC.out wr j hd (by omega)
          rw [show ((j + 1 : Nat) : Int) + 1 = (j : Int) + 1 + 1 by omega] at hz
          rw [hz] at j1
          clear hz
          obtain ⟨y', hy'⟩ : ∃ y', ((j : Int) + 1) * p / q' = y' := ⟨_, rfl⟩
          rw [hy'] at j0 j1
          clear hy'
          have j2 : decide (z ≤ y') = false := decide_eq_false (by omega)
          have j3 : IntKind.i64.wrap ((j : Int) + 1 - 1) = (j : Int) := by rw [IntWalk.i64_in _ (by omega)]; omega
          have j4 : (j : Int) < 60 := by omega
          have j5 : (0 : Int) ≤ (j : Int) := by omega
          go_wp2_with fail
          go_roundw
          case rel => exact ⟨j + 1 + 1, by omega, by go_num, hd⟩
          case measure => simp [intOf]; omega
      · have hk6 : k = 60 := by omega
        subst hk6
        obtain ⟨M0, M1⟩ := last_le p q' p1 p4 (by omega)
        obtain ⟨M, hM⟩ := Int.eq_ofNat_of_zero_le M0
        have h59 := HC.out wr 59 hd (by omega)
        rw [show ((59 : Nat) : Int) + 1 = 60 from rfl, hM] at h59
        rw [hM] at M1
        have hms := iMissedBy_yes (bty p q' 60) M (by omega) (some ⟨gb, 0, none⟩) c3 wr (by rw [bty_length]; omega) (HO.out.dr hd).reads
        rw [bty_length] at hms
        have hlt59 := (World.ownsRow.lt (HO.out.dr hd) gb rfl).2
        have hml := msd_last p q' g r s 60 M (by omega) (by omega) k0' K4.out K5.out (by omega) hM
        have HMS := Lib.hid hms; have HML := Lib.hid hml; have H59 := Lib.hid h59
        have B28 := B27.trans hd.below
        clear hms hml M0 hlt hk hM B27
        go_wp2_with fail
        refine HMS.out.mono ?_
        rintro e w28 ⟨A4, c4, rfl, o4, b28⟩
        have B29 := B28.trans (b28.mono B28.size)
        have h59b : w28.cell? ⟨gb, 59, none⟩ = some (.int .i64 (M : Int)) := (b28.cell (p := ⟨gb, 59, none⟩) hlt59).trans H59.out
        obtain ⟨hlen, hat⟩ := HML.out
        clear HMS HML H59 h59 b28 B28 hlt59 HC HO hd
        generalize msd (bty p q' 60) M = Z at *
        obtain ⟨K, hK⟩ : ∃ K, Z.length = K := ⟨_, rfl⟩
        rw [hK] at hlen o4 ⊢
        have HAT := Lib.hid hat; have HO4 := Lib.hid o4; have H59 := Lib.hid h59b; have HZ := Lib.hid hK
        clear hat o4 h59b hK
        go_wp2_with fail
        go_loopw [30, 31, 303] (fun _ _ i wv => ∃ k : Nat, k ≤ K ∧ i = .int .i64 k ∧ Dr w28 wv) (fun _ _ i _ => K - (intOf i).toNat)
        case atStart => exact ⟨0, by omega, rfl, Dr.refl _⟩
        case round =>
          obtain ⟨k, hk, rfl, hd⟩ := hrel
          by_cases hlt : k < K
          · obtain ⟨g4, rfl⟩ := own_block HO4.out (by omega)
            obtain ⟨z, hz⟩ := some_of_lt (l := Z) (k := k) (by have := HZ.out; omega)
            have hzc := rds_cell (HO4.out.dr hd).reads (map_at (Value.int .i64) hz)
            have hze := HAT.out k z hz
            have hl2 : (k : Int) < (K : Int) := by omega
            have hl3 : (0 : Int) ≤ (k : Int) := by omega
            obtain ⟨hm1, hm2⟩ := mul_bd (a := (k : Int) + 1) (b := r) (A := 2000) (B := 50) (by omega) (by omega) (by omega) (by omega)
            have hq1 := Int.ediv_nonneg (a := ((k : Int) + 1) * r + s - 1) (b := s) (by omega) (by omega)
            have hq2 := Int.ediv_le_self (a := ((k : Int) + 1) * r + s - 1) s (by omega)
            obtain ⟨d, hdq⟩ : ∃ d, (((k : Int) + 1) * r + s - 1) / s = d := ⟨_, rfl⟩
            rw [hdq] at hze hq1 hq2
            subst hze
            clear hz
            go_wp2_with fail
            go_roundw
            case rel => exact ⟨k + 1, by omega, by go_num, hd⟩
            case measure => simp [intOf]; omega
          · have hkK : k = K := by omega
            subst hkK
            have h59c := (hd.below (B := gb + 1)).cell (p := ⟨gb, 59, none⟩) (by show gb < gb + 1; omega)
            rw [H59.out] at h59c
            have hl4 : (k : Int) + 60 = (M : Int) := by omega
            clear hlt hk
            go_wp2_with fail
            go_ret
            exact ⟨rfl, B29.trans hd.below⟩

set_option maxRecDepth 100000 in
theorem lifted (os : Os) (started : os.Started) (H : Type) (enc : TypeId × Value → H) :
    ReturnsInHanded {} Tryd.checked os 4 .any (fun w args => (Rows.fnComplementsSpec.pre enc Tryd.prog Tryd.f4 [] false w args ∧ laidMetH Tryd.prog Rows.fnComplementsRow.laid w) ∧ sizedMet enc Tryd.prog Tryd.f4 (OpenSpec.ofChange Rows.fnComplementsSpec) false w args) (Rows.fnComplementsSpec.post enc Tryd.prog Tryd.f4 false true false false) := by
  refine handed_and_shaped (C := Tryd.checked) (X := fun w _ => laidMetH Tryd.prog Rows.fnComplementsRow.laid w) (fun _ _ _ hh h => h.of_heap hh) own started (by kernel_rfl) Tryd.func4
    (ChangeSpec.witness_shaped (enc := enc) (C := Tryd.checked) (os := os) (X := fun w _ => laidMetH Tryd.prog Rows.fnComplementsRow.laid w) false (World.laidAll Tryd.prog os Rows.fnComplementsRow.laid) #[.slice none 0 0] 8 (World.laidAll_os _ _ _)
      (World.shaped_of_ZipB (by kernel_rfl) (by kernel_rfl)) (by kernel_rfl) (by kernel_rfl) (by kernel_rfl)
      (by rw [MakeChecks.laidMetH_plain _ _ _ (by kernel_rfl)]; exact laidMet_laidAll _ (by kernel_rfl) (by kernel_rfl))) ?_
  intro W base args ds gs before hval0 hW hL hsh
  rw [MakeChecks.laidMetH_plain _ _ _ (by kernel_rfl)] at hL
  have hval : ∀ (j : Nat) t v, Tryd.f4.params[j]? = some t → args[j]? = some v → Value.okWide Tryd.prog W .any base t v := hval0
  have hW' := hW
  obtain ⟨p, q, hA0, hV, rfl, hfz, hnd⟩ := hW
  have hA : DataW.TrodAll enc Tryd.prog W 0 (fun _ => true) true Tryd.f4.params.toList args.toList ds p := hA0
  rw [Tryd.params4] at hA hval
  obtain ⟨v0, vs0, d0, ds0, p0, q0, hargs, rfl, rfl, h0, r0⟩ := trodAll_cons hA
  obtain ⟨rfl, rfl, rfl⟩ := trodAll_nil r0
  obtain rfl : args = #[v0] := by cases args; simp_all
  obtain ⟨rfl, rfl⟩ := trodVars_none hV
  obtain ⟨s0, len0, cap0, rfl⟩ := okWide_slice Tryd.underlying31 (hval 0 31 v0 rfl rfl)
  have k0 := h0
  have lt0 : ∀ x ∈ p0, x.block < W.heap.size := by obtain ⟨m, hm⟩ := k0; exact DataW.trod_lt m _ _ _ hm
  obtain ⟨z0, w0⟩ : ∃ zs, BytesIn W s0 len0 cap0 zs := bytes_in Tryd.underlying31 Tryd.underlying5 (by kernel_rfl) h0 lt0
  clear hA0 hval0
  refine (walk s0 len0 cap0 z0 W w0 hsh hL).mono fun e W' ⟨he, bel⟩ => ?_
  subst he
  exact ⟨_, rfl, _, _, _, [], _, [], hW', trodAll_mk1 (shut_bool Tryd.underlying4 _), (trodAll_cons_mk (Below.trod laidOut (by kernel_rfl) (of_decide_eq_true (by kernel_rfl)) k0 bel lt0) trodAll_mk0), rfl, bel.frame _, fun h => by cases h⟩

theorem over : Rows.fnComplementsRow.holds Tryd.pinned (OpenSpec.ofChange Rows.fnComplementsSpec) :=
  OpenClaim.holds_of_wide 4 Tryd.f4 rfl rfl rfl rfl rfl rfl rfl ⟨rfl, rfl, rfl, rfl, rfl⟩ rfl rfl rfl rfl rfl (by kernel_rfl) Tryd.func4 (by kernel_rfl)
    (of_decide_eq_true (by kernel_rfl)) (by unfold Func.isWrapper; first | (rw [if_pos (by decide +kernel)]; kernel_rfl) | (rw [if_neg (by decide +kernel)]; exact ⟨rfl, rfl⟩))
    (fun os started H enc _ => lifted os started H enc)

theorem proved : Rows.FnComplementsCardSaid :=
  Claim7.holds_tied_plain_at .later [] _ true _ _ over (fun _ h => by cases h) (by kernel_rfl) (fun _ h => by cases h) fnComplements_row_tie rfl ⟨rfl, rfl⟩ (by kernel_rfl) rfl
    (fun f fn hf hfn => by
      obtain rfl : f = 4 := Option.some.inj ((show Tryd.prog.funcNamed "loop.example/g03209/laws.FnComplements" = some 4 by kernel_rfl).symm.trans hf) |>.symm
      obtain rfl : fn = Tryd.f4 := (Option.some.inj (Tryd.func4.symm.trans hfn)).symm
      exact ⟨by kernel_rfl, fun j t ht => by
        rw [Tryd.params4] at ht
        have hm : t ∈ [31] := by simpa using Array.mem_of_getElem? ht
        have hall : ([31].all fun u => !Tryd.prog.wantsStandIn u) = true := by kernel_rfl
        exact (show Tryd.prog.wantsStandIn t = false by simpa using List.all_eq_true.1 hall t hm)⟩)
    (by kernel_rfl)
#print axioms proved
end Go.Proofs.YtkmkaaomkjhlgaaDoor.fnComplements
