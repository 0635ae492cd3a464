/- The draws of the laws over codes: each number lies where it should; which it is does not matter. No condition but the bounds. -/
import Derived.Test.YtaihigaafjmpiaaDoorMem
import Derived.Test.YtaihigaafjmpiaaDoorNum
import Derived.Test.YtaihigaafjmpiaaDoorByt
import Derived.Test.YtaihigaafjmpiaaDoorBox
import Derived.RegionTactic
import Derived.BigRegion
import Derived.ChangeAlike
namespace Go.Proofs.YtaihigaafjmpiaaDoor
open Go.RowKit
set_option linter.unusedVariables false

theorem and_le (a : Int) (m : Nat) (hm : m < 4611686018427387904) : ∃ k : Nat, bits .and .i64 a (m : Int) = (k : Int) ∧ k ≤ m := by
  have h2 : (BitVec.ofInt 64 (m : Int)).toNat = m := by
    rw [BitVec.ofInt_natCast, BitVec.toNat_ofNat]; exact Nat.mod_eq_of_lt (by omega)
  refine ⟨(BitVec.ofInt 64 a &&& BitVec.ofInt 64 (m : Int)).toNat, ?_, by rw [BitVec.toNat_and, h2]; exact Nat.and_le_right⟩
  show IntKind.i64.wrap ((BitVec.ofInt 64 a &&& BitVec.ofInt 64 (m : Int)).toNat : Int) = _
  have h3 : (BitVec.ofInt 64 a &&& BitVec.ofInt 64 (m : Int)).toNat ≤ m := by rw [BitVec.toNat_and, h2]; exact Nat.and_le_right
  exact IntWalk.i64_in _ (by omega)
/-- A drawer at block p: over n bytes at A, i of them used. -/
def CurAt (w : World) (p : Nat) (A : Option Addr) (n c : Nat) : Prop :=
  p < w.heap.size ∧ w.cell? ⟨p, 0, none⟩ = some (.slice A n c) ∧ (∃ i : Nat, i ≤ n ∧ w.cell? ⟨p, 1, none⟩ = some (.int .i64 i)) ∧ (∃ h : Int, w.cell? ⟨p, 2, none⟩ = some (.int .i64 h)) ∧ w.frozen? ⟨p, 1, none⟩ = false ∧ w.frozen? ⟨p, 2, none⟩ = false
theorem CurAt.dr {w w' : World} {p : Nat} {A : Option Addr} {n c : Nat} (h : CurAt w p A n c) (hd : Dr w w') : CurAt w' p A n c := by
  obtain ⟨k, rfl⟩ := hd
  exact h
theorem CurAt.set2 {w : World} {p : Nat} {A : Option Addr} {n c : Nat} (h : CurAt w p A n c) (g : Int) : CurAt (w.setCell ⟨p, 2, none⟩ (.int .i64 g)) p A n c := by
  obtain ⟨c0, c1, ⟨i, hi, c2⟩, ⟨x, c3⟩, f1, f2⟩ := h
  refine ⟨by simpa using c0, ?_, ⟨i, hi, ?_⟩, ⟨g, ?_⟩, ?_, ?_⟩
  · rw [World.cell?_setCell_other _ _ _ _ (by simp)]; exact c1
  · rw [World.cell?_setCell_other _ _ _ _ (by simp)]; exact c2
  · exact World.cell?_setCell_same _ _ _ c3
  · rw [World.frozen?_setCell]; exact f1
  · rw [World.frozen?_setCell]; exact f2
theorem CurAt.set1 {w : World} {p : Nat} {A : Option Addr} {n c : Nat} (h : CurAt w p A n c) (k : Nat) (hk : k ≤ n) : CurAt (w.setCell ⟨p, 1, none⟩ (.int .i64 k)) p A n c := by
  obtain ⟨c0, c1, ⟨i, hi, c2⟩, ⟨x, c3⟩, f1, f2⟩ := h
  refine ⟨by simpa using c0, ?_, ⟨k, hk, ?_⟩, ⟨x, ?_⟩, ?_, ?_⟩
  · rw [World.cell?_setCell_other _ _ _ _ (by simp)]; exact c1
  · exact World.cell?_setCell_same _ _ _ c2
  · rw [World.cell?_setCell_other _ _ _ _ (by simp)]; exact c3
  · rw [World.frozen?_setCell]; exact f1
  · rw [World.frozen?_setCell]; exact f2
theorem CurAt.below {w w' : World} {p : Nat} {A : Option Addr} {n c : Nat} (h : CurAt w p A n c) (hb : Below w.heap.size w w') : CurAt w' p A n c := by
  obtain ⟨c0, c1, ⟨i, hi, c2⟩, ⟨x, c3⟩, f1, f2⟩ := h
  have hf : ∀ a : Addr, a.block < w.heap.size → w'.frozen? a = w.frozen? a := fun a ha => by
    unfold World.frozen?
    rw [hb.block a.block ha]
  refine ⟨Nat.lt_of_lt_of_le c0 hb.size, (hb.cell (p := ⟨p, 0, none⟩) c0).trans c1, ⟨i, hi, (hb.cell (p := ⟨p, 1, none⟩) c0).trans c2⟩, ⟨x, (hb.cell (p := ⟨p, 2, none⟩) c0).trans c3⟩, (hf ⟨p, 1, none⟩ c0).trans f1, (hf ⟨p, 2, none⟩ c0).trans f2⟩
theorem CurAt.new {w : World} {A : Option Addr} {n c : Nat} {x : Int} {T : TypeId} : CurAt (w.alloc (.cells #[.slice A n c, .int .i64 0, .int .i64 x] T)) w.heap.size A n c := by
  have h := heap_alloc_new w (.cells #[.slice A n c, .int .i64 0, .int .i64 x] T)
  exact ⟨by simp, cell_of_row _ _ 0 _ _ (0, 0) h, ⟨0, by omega, cell_of_row _ _ 1 _ _ (0, 0) h⟩, ⟨x, cell_of_row _ _ 2 _ _ (0, 0) h⟩, frozen_of_row _ _ 1 _ _ h, frozen_of_row _ _ 2 _ _ h⟩
theorem gb_set (w : World) (p j : Nat) (v : Value) : w.grownBy (w.setCell ⟨p, j, none⟩ v) (some p) :=
  ⟨rfl, rfl, rfl, by simp [World.setCell], fun k hk hne => Below.heap_setCell _ _ _ _ (fun e => hne (by simp [e]))⟩
theorem gb_dr {w w' : World} (h : Dr w w') (row : Option Nat) : w.grownBy w' row :=
  have hb : Below w.heap.size w w' := h.below
  ⟨hb.os, hb.tape, hb.output, hb.size, fun k hk _ => hb.block k hk⟩
set_option maxRecDepth 4000 in
set_option maxHeartbeats 1000000 in
theorem l01Byte_any (p B : Nat) (A : Option Addr) (n c : Nat) (l : List UInt8) (w : World) (hl : l.length = n) (hn : n ≤ 1048576) (hc : CurAt w p A n c) (hrd : Rds w B A (byV l)) (hB : B ≤ p) :
    Calls Tryd.prog 39 #[.pointer (some ⟨p, 0, none⟩)] w fun e w' => ∃ x : Nat, x ≤ 255 ∧ e = .returned (.int .i64 x) ∧ CurAt w' p A n c ∧ Below p w w' ∧ w.grownBy w' (some p) := by
  have HC := Lib.hid hc
  obtain ⟨c0, c1, ⟨i, hi, c2⟩, ⟨h, c3⟩, f1, f2⟩ := hc
  obtain ⟨g, hg⟩ : ∃ g, wrap64 (wrap64 (h * 6364136223846793005) + 1442695040888963407) = g := ⟨_, rfl⟩
  obtain ⟨x, hx, hx2⟩ := and_le (bits .xor .i64 (g / 8589934592) (g / 35184372088832)) 255 (by decide)
  have hx' : bits .and .i64 (bits .xor .i64 (g / 8589934592) (g / 35184372088832)) 255 = (x : Int) := hx
  have hbw : Below p w (w.setCell ⟨p, 2, none⟩ (.int .i64 g)) := (Below.refl p w).setCell (show p ≤ (⟨p, 2, none⟩ : Addr).block from Nat.le_refl p) _
  clear hx
  by_cases hin : i < n
  · obtain ⟨b, hb⟩ := some_of_lt (l := l) (k := i) (by omega)
    obtain ⟨ad, rfl, hcb⟩ := (hrd.below hbw hB).at_ (k := i) (u := .int .u8 (b.toNat : Int)) (by rw [byV, List.getElem?_map, hb]; rfl)
    obtain ⟨y, hy, hy2⟩ := and_le ((x : Int) + (b.toNat : Int)) 255 (by decide)
    have hy' : bits .and .i64 ((x : Int) + (b.toNat : Int)) 255 = (y : Int) := hy
    have hb9 : b.toNat < 256 := b.toNat_lt
    have hin2 : (i : Int) < (n : Int) := by omega
    have HRD := Lib.hid hrd
    clear hrd hy hb hl
    go_enter Tryd.func39, Tryd.ntmps39
    go_wp2_with fail
    go_quiet (fail)
    go_wp2_with fail
    go_quiet (fail)
    go_wp2_with fail
    go_quiet (fail)
    go_wp2_with fail
    go_ret
    exact ⟨y, hy2, rfl, ((HC.out.set2 g).dr ((Dr.refl _).drewN _)).set1 (i + 1) (by omega), (hbw.trans ((Dr.refl _).drewN _).below).setCell (show p ≤ (⟨p, 1, none⟩ : Addr).block from Nat.le_refl p) _, ((gb_set w p 2 _).trans (gb_dr ((Dr.refl _).drewN _) _)).trans (gb_set _ p 1 _)⟩
  · have hin2 : decide ((i : Int) < (n : Int)) = false := decide_eq_false (by omega)
    clear hrd hl
    go_enter Tryd.func39, Tryd.ntmps39
    go_wp2_with fail
    go_quiet (fail)
    go_wp2_with fail
    go_quiet (fail)
    go_wp2_with fail
    go_ret
    exact ⟨x, hx2, rfl, ((HC.out.set2 g).dr ((Dr.refl _).drewN _)).dr ((Dr.refl _).drewN _), hbw.trans (((Dr.refl _).drewN _).drewN _).below, (gb_set w p 2 _).trans (gb_dr (((Dr.refl _).drewN _).drewN _) _)⟩
set_option maxHeartbeats 1000000 in
theorem l01Below_any (p B : Nat) (A : Option Addr) (n c m : Nat) (l : List UInt8) (w : World) (h0 : 1 ≤ m) (hm : m ≤ 256) (hl : l.length = n) (hn : n ≤ 1048576) (hc : CurAt w p A n c) (hrd : Rds w B A (byV l)) (hB : B ≤ p) :
    Calls Tryd.prog 22 #[.pointer (some ⟨p, 0, none⟩), .int .i64 m] w fun e w' => ∃ x : Nat, x < m ∧ e = .returned (.int .i64 x) ∧ CurAt w' p A n c ∧ Below p w w' ∧ w.grownBy w' (some p) := by
  have hb := l01Byte_any p B A n c l w hl hn hc hrd hB
  have HB := Lib.hid hb
  clear hb hc hrd hl
  go_enter Tryd.func22, Tryd.ntmps22
  go_wp2_with (go_at_call 39; refine HB.out.mono ?_; rintro e w1 ⟨x, hx, rfl, c1, b1⟩)
  go_ret
  exact ⟨x % m, Nat.mod_lt _ (by omega), rfl, c1, b1.1, b1.2⟩
set_option maxRecDepth 4000 in
set_option maxHeartbeats 1000000 in
theorem l01New_any (A : Option Addr) (n c B : Nat) (l : List UInt8) (w : World) (hl : l.length = n) (hn : n ≤ 1048576) (hrd : Rds w B A (byV l)) :
    Calls Tryd.prog 38 #[.slice A n c] w fun e w' => e = .returned (.pointer (some ⟨w.heap.size, 0, none⟩)) ∧ CurAt w' w.heap.size A n c ∧ Below w.heap.size w w' := by
  have HL := Lib.hid hl; have HR := Lib.hid hrd
  clear hl hrd
  go_enter Tryd.func38, Tryd.ntmps38
  go_wp2_with fail
  go_loop [3, 4] (fun h i => ∃ k : Nat, k ≤ n ∧ i = .int .i64 k ∧ ∃ x : Int, h = .int .i64 x ∧ 0 ≤ x ∧ x ≤ 1073741823) (fun _ i => n - (intOf i).toNat)
  case atStart => exact ⟨0, by omega, rfl, _, rfl, by omega, by omega⟩
  case round =>
    obtain ⟨k, hk, rfl, x, rfl, hx1, hx2⟩ := hrel
    by_cases hlt : k < n
    · have hlt2 : (k : Int) < (n : Int) := by omega
      by_cases hl4 : k < 4000
      · have hl5 : (k : Int) < 4000 := by omega
        obtain ⟨b, hb⟩ := some_of_lt (l := l) (k := k) (by rw [HL.out]; exact hlt)
        obtain ⟨ad, rfl, hcb⟩ := HR.out.at_ (k := k) (u := .int .u8 (b.toNat : Int)) (by rw [byV, List.getElem?_map, hb]; rfl)
        have hb9 : b.toNat < 256 := b.toNat_lt
        obtain ⟨y, hy, hy2⟩ := and_le (x * 181 + (b.toNat : Int) + 7) 1073741823 (by decide)
        have hy' : bits .and .i64 (x * 181 + (b.toNat : Int) + 7) 1073741823 = (y : Int) := hy
        clear hy hb
        go_wp2_with fail
        go_round
        case rel => exact ⟨k + 1, by omega, by go_num, y, rfl, by omega, by omega⟩
        case measure => simp [intOf]; omega
      · have hl5 : decide ((k : Int) < 4000) = false := decide_eq_false (by omega)
        have hl6 : decide (k < 4000) = false := decide_eq_false hl4
        go_wp2_with fail
        go_ret
        exact ⟨rfl, CurAt.new, (Below.refl _ _).alloc (Nat.le_refl _) _⟩
    · have hlt2 : decide ((k : Int) < (n : Int)) = false := decide_eq_false (by omega)
      go_wp2_with fail
      go_ret
      exact ⟨rfl, CurAt.new, (Below.refl _ _).alloc (Nat.le_refl _) _⟩
set_option maxHeartbeats 1000000 in
theorem l31New_any (A : Option Addr) (n c B m : Nat) (l : List UInt8) (w : World) (hm : m ≤ 100000) (hl : l.length = n) (hn : n ≤ 1048576) (hrd : Rds w B A (byV l)) (hB : B ≤ w.heap.size) :
    Calls Tryd.prog 21 #[.slice A n c, .int .i64 m] w fun e w' => e = .returned (.pointer (some ⟨w.heap.size, 0, none⟩)) ∧ CurAt w' w.heap.size A n c ∧ Below w.heap.size w w' := by
  have hnw := l01New_any A n c B l w hl hn hrd
  have HN := Lib.hid hnw; have HL := Lib.hid hl; have HR := Lib.hid hrd
  clear hnw hl hrd
  go_enter Tryd.func21, Tryd.ntmps21
  go_wp2_with (go_at_call 38; refine HN.out.mono ?_; rintro e w1 ⟨rfl, c1, b1⟩)
  go_loopw [6] (fun i wr => ∃ k : Nat, k ≤ m ∧ i = .int .i64 k ∧ CurAt wr w.heap.size A n c ∧ Below w.heap.size w wr) (fun i _ => m - (intOf i).toNat)
  case atStart => exact ⟨0, by omega, rfl, c1, b1⟩
  case round =>
    clear c1 b1
    obtain ⟨k, hk, rfl, cr, br⟩ := hrel
    have hb := l01Byte_any w.heap.size B A n c l wr HL.out hn cr (HR.out.below br hB) hB
    have HB := Lib.hid hb; have CR := Lib.hid cr
    clear hb cr
    by_cases hlt : k < m
    · go_wp2_with (go_at_call 39; refine HB.out.mono ?_; rintro e w2 ⟨x, hx, rfl, c2, b2, _⟩)
      go_roundw
      case rel => exact ⟨k + 1, by omega, by go_num, c2, br.trans b2⟩
      case measure => simp [intOf]; omega
    · go_wp2_with fail
      go_ret
      exact ⟨rfl, CR.out, br⟩
set_option maxHeartbeats 1000000 in
theorem makeSize_any (A : Option Addr) (n c B m lo hi : Nat) (l : List UInt8) (w : World) (hm : m ≤ 100000) (hlo : lo ≤ hi) (hhi : hi ≤ lo + 99) (hlo2 : lo ≤ 100000) (hl : l.length = n) (hn : n ≤ 1048576) (hrd : Rds w B A (byV l)) (hB : B ≤ w.heap.size) :
    Calls Tryd.prog 5 #[.slice A n c, .int .i64 m, .int .i64 lo, .int .i64 hi] w fun e w' => ∃ x : Nat, lo ≤ x ∧ x ≤ hi ∧ e = .returned (.int .i64 x) ∧ Below w.heap.size w w' := by
  have hnw := l31New_any A n c B m l w hm hl hn hrd hB
  have hbl := fun q h0 hm' w' hc r => l01Below_any w.heap.size B A n c q l w' h0 hm' hl hn hc r hB
  have HN := Lib.hid hnw; have HBL := Lib.hid hbl; have HR := Lib.hid hrd
  clear hnw hbl hl hrd
  go_enter Tryd.func5, Tryd.ntmps5
  go_wp2_with fail
  go_loop [9, 10] (fun s i => ∃ j : Nat, j ≤ hi - lo ∧ i = .int .i64 ((lo : Int) + j) ∧ s = .int .i64 (1 + (j : Int))) (fun s _ => 200 - (intOf s).toNat)
  case atStart => exact ⟨0, by omega, by go_num, rfl⟩
  case round =>
    obtain ⟨j, hj, rfl, rfl⟩ := hrel
    by_cases hlt : j < hi - lo
    · have h1 : (lo : Int) + (j : Int) < (hi : Int) := by omega
      have h2 : 1 + (j : Int) < 100 := by omega
      go_wp2_with fail
      go_round
      case rel => exact ⟨j + 1, by omega, by go_num, by go_num⟩
      case measure => simp [intOf]; omega
    · have h1 : decide ((lo : Int) + (j : Int) < (hi : Int)) = false := decide_eq_false (by omega)
      have hj2 : 1 + (j : Int) = ((hi - lo + 1 : Nat) : Int) := by omega
      obtain ⟨q, hq⟩ : ∃ q, hi - lo + 1 = q := ⟨_, rfl⟩
      have hb := fun w' hc r => HBL.out q (by omega) (by omega) w' hc r
      rw [hq] at hj2
      have HB := Lib.hid hb
      have hqx : hi + 1 = lo + q := by omega
      have HQX := Lib.hid hqx
      rw [hj2]
      clear hb hq hj2 hqx h1
      have h1 : decide ((lo : Int) + (j : Int) < (hi : Int)) = false := decide_eq_false (by omega)
      go_wp2_with (first
        | (go_at_call 21; refine HN.out.mono ?_; rintro e w1 ⟨rfl, c1, b1⟩)
        | (go_at_call 22; refine (HB.out _ c1 (HR.out.below b1 hB)).mono ?_; rintro e w2 ⟨x, hx, rfl, c2, b2, _⟩))
      have hw2 := b1.trans b2
      clear b1 b2 c1 c2
      go_loop [11, 12] (fun o k => ∃ j : Nat, j ≤ x ∧ o = .int .i64 ((lo : Int) + j) ∧ k = .int .i64 ((x : Int) - j)) (fun _ k => (intOf k).toNat)
      case atStart => exact ⟨0, by omega, by go_num, by go_num⟩
      case round =>
        obtain ⟨t, ht, rfl, rfl⟩ := hrel
        have hq2 := HQX.out
        by_cases hlt2 : t < x
        · have h3 : 0 < (x : Int) - (t : Int) := by omega
          go_wp2_with fail
          go_round
          case rel => exact ⟨t + 1, by omega, by go_num, by go_num⟩
          case measure => simp [intOf]; omega
        · have htx : t = x := by omega
          subst htx
          go_wp2_with fail
          go_ret
          exact ⟨lo + t, by omega, by omega, by go_num, hw2⟩
end Go.Proofs.YtaihigaafjmpiaaDoor
