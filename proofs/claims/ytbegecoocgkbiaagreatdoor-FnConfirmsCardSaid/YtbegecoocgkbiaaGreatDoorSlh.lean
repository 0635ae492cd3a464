/- SelfWord at 12 letters (turned from the text for more by a small program). No condition. -/
import Derived.Test.YtbegecoocgkbiaaGreatDoorM17
import Derived.Test.YtbegecoocgkbiaaGreatDoorM1
import Derived.Test.YtbegecoocgkbiaaGreatDoorNum
namespace Go.Proofs.YtbegecoocgkbiaaGreatDoor
open Go.RowKit
set_option linter.unusedVariables false

def shC (k : Nat) : UInt8 := UInt8.ofNat (97 + k % 2)
theorem shC_nat (k : Nat) : ((shC k).toNat : Int) = 97 + (k : Int) % 2 := by
  unfold shC
  rw [UInt8.toNat_ofNat']
  omega
/-- One round of SelfWord. -/
def shS (l : List UInt8) (k : Nat) : List UInt8 := if (l ++ [shC k]).getD k 0 = 98 then l ++ [shC k] ++ [shC k] else l ++ [shC k]
def shG : Nat → List UInt8 → Nat → List UInt8
  | 0, l, _ => l
  | f + 1, l, k => if l.length < 12 then shG f (shS l k) (k + 1) else l
theorem shG_end {l : List UInt8} (h : ¬ l.length < 12) (k : Nat) : ∀ f, shG f l k = l
  | 0 => rfl
  | f + 1 => by rw [shG, if_neg h]
theorem shG_step {l : List UInt8} (h : l.length < 12) {k f : Nat} (hf : k < f) : shG (f - k) l k = shG (f - (k + 1)) (shS l k) (k + 1) := by
  obtain ⟨q, hq⟩ : ∃ q, f - k = q + 1 := ⟨f - k - 1, by omega⟩
  rw [hq, shG, if_pos h]; congr 1; omega
/-- The first 12 letters. -/
def shW : List UInt8 := (shG 398 [97, 98, 98] 2).take 12
def sliceLenH : Value → Nat
  | .slice _ n _ => n
  | _ => 0
theorem OwnF.lit3h (w : World) (E : TypeId) {B : Nat} {a b c : UInt8} {fr : Nat × Nat} : OwnF (w.alloc (.cells #[.int .u8 (a.toNat : Int), .int .u8 (b.toNat : Int), .int .u8 (c.toNat : Int)] E fr)) B E (.slice (some ⟨w.heap.size, 0, none⟩) 3 3) (byV [a, b, c]) := by
  refine .inr ⟨w.heap.size, rfl, fun k u hu => ⟨_, rfl, by simp, ?_⟩⟩
  have hk : k < 3 := by have := (List.getElem?_eq_some_iff.1 hu).1; simpa [byV] using this
  have h := heap_alloc_new w (.cells #[.int .u8 (a.toNat : Int), .int .u8 (b.toNat : Int), .int .u8 (c.toNat : Int)] E fr)
  match k, hk, hu with
  | 0, _, hu =>
    simp [byV] at hu; subst hu
    simpa [Addr.add] using cell_of_row _ _ 0 _ _ fr h
  | 1, _, hu =>
    simp [byV] at hu; subst hu
    simpa [Addr.add] using cell_of_row _ _ 1 _ _ fr h
  | 2, _, hu =>
    simp [byV] at hu; subst hu
    simpa [Addr.add] using cell_of_row _ _ 2 _ _ fr h
theorem rds_takeH {w : World} {B : Nat} {A : Option Addr} {xs : List Value} (n : Nat) (h : Rds w B A xs) : Rds w B A (xs.take n) := fun k u hu => by
  refine h k u ?_
  rw [List.getElem?_take] at hu
  split at hu
  · exact hu
  · cases hu
set_option maxRecDepth 4000 in
set_option maxHeartbeats 1000000 in
theorem iSelf_12 (w : World) :
    Calls Tryz.prog 18 #[.int .i64 12] w fun e w' => e = .returned (.tuple #[.string (strOf shW), .bool true]) ∧ Below w.heap.size w w' := by
  have kc := fun (w : World) (C : Array Value) (n c : Nat) => Lib.run_convert_bytes_const (P := Tryz.prog) w 22 5 C n c Tryz.underlying22 Tryz.underlying5
  have HR := Lib.hid (show (shG 398 [97, 98, 98] 2).take 12 = shW from rfl)
  go_enter Tryz.func18, Tryz.ntmps18
  go_wp2_with (go_at_call 61; refine (within_yes _ _ _ ⟨by omega, by omega⟩ _).mono ?_; rintro e w' ⟨rfl, rfl⟩)
  clear kc
  go_loopw [4, 5, 6] (fun v i _ wr => ∃ k m : Nat, ∃ A c, ∃ l : List UInt8, l.length = m ∧ k + 1 ≤ m ∧ m ≤ 201 ∧ i = .int .i64 k ∧ v = .slice A m c ∧ OwnF wr w.heap.size 5 (.slice A m c) (byV l) ∧ shG (400 - k) l k = shG 398 [97, 98, 98] 2 ∧ Below w.heap.size w wr) (fun v _ _ _ => 202 - sliceLenH v)
  case atStart =>
    exact ⟨2, 3, _, _, [97, 98, 98], rfl, by omega, by omega, rfl, rfl, OwnF.lit3h _ _, rfl, (Below.refl _ _).alloc (Nat.le_refl _) _⟩
  case round =>
    obtain ⟨k, m, A, c, l, hl, hkm, hm, rfl, rfl, hown, hg, hbel⟩ := hrel
    have HL := Lib.hid hl; have HO := Lib.hid hown; have HG := Lib.hid hg
    clear hl hown hg
    by_cases hlt : m < 12
    · have hc := shC_nat k
      obtain ⟨b, hb⟩ : ∃ b, shC k = b := ⟨_, rfl⟩
      rw [hb] at hc
      have hc2 : (97 + (k : Int) % 2) % 256 = (b.toNat : Int) := by omega
      obtain ⟨y, hy⟩ := some_of_lt (l := l ++ [b]) (k := k) (by have := HL.out; simp; omega)
      have hyd : (l ++ [b]).getD k 0 = y := by rw [List.getD_eq_getElem?_getD, hy]; rfl
      have hs1 := shG_step (l := l) (k := k) (f := 400) (by have := HL.out; omega) (by omega)
      unfold shS at hs1
      rw [hb, hyd] at hs1
      have HB := Lib.hid hb; have HC := Lib.hid hc; have HY := Lib.hid hy; have HS := Lib.hid hs1
      have hz := hbel.size
      have hm9 : m < 4294967296 := by omega
      have hdl : (byV l).length = m := by rw [byV_length]; exact HL.out
      have HDL := Lib.hid hdl
      have hk0 : (0 : Int) ≤ (k : Int) := by omega
      have hkm2 : (k : Int) < (m : Int) + 1 := by omega
      clear hdl hb hy hyd hs1 hc
      go_wp2_with (at_builtin; refine wp_append1F rfl (.tmp 22) (.tmp 24) 22 rfl _ 1 Tryz.underlying22 info_u8 rfl rfl HO.out _ rfl rfl m HDL.out hm9 (by decide) hz ?_)
      intro A1 c1 w1 hown1 hbel1 hsz1
      rw [← HC.out, byV_snoc] at hown1
      have hbel2 := hbel.trans hbel1
      have hcell := hown1.reads.at_ (k := k) (u := .int .u8 (y.toNat : Int)) (by rw [byV, List.getElem?_map, HY.out]; rfl)
      obtain ⟨ad, rfl, hcell⟩ := hcell
      have HO1 := Lib.hid hown1
      clear hown1 hbel1
      by_cases hy98 : y = 98
      · have hyn : (y.toNat : Int) = 98 := by rw [hy98]; rfl
        have hdl : (byV (l ++ [b])).length = m + 1 := by rw [byV_length, List.length_append]; have := HL.out; simp; omega
        have HDL1 := Lib.hid hdl; have HY98 := Lib.hid hy98
        have hz2 := hbel2.size
        have hm10 : m + 1 < 4294967296 := by omega
        clear hdl hy98
        go_wp2_with (at_builtin; refine wp_append1 rfl (.tmp 31) (.tmp 33) 22 rfl _ 1 Tryz.underlying22 info_u8 rfl rfl HO1.out _ rfl rfl (m + 1) HDL1.out hm10 (by decide) hz2 ?_)
        intro A2 c2 w2 hown2 hbel3 hsz2
        rw [← HC.out, byV_snoc] at hown2
        have HO2 := Lib.hid hown2
        clear hown2
        go_wp2_with fail
        go_roundw
        case rel => exact ⟨k + 1, m + 1 + 1, A2, c2, l ++ [b] ++ [b], by have := HL.out; simp; omega, by omega, by omega, by go_num, rfl, .inl HO2.out, by rw [← HG.out, HS.out, if_pos HY98.out], hbel2.trans hbel3⟩
        case measure => simp [sliceLenH]; omega
      · have hyn : ((y.toNat : Int) == 98) = false := by
          rw [beq_eq_false_iff_ne]; intro h; exact hy98 (UInt8.toNat_inj.1 (by show y.toNat = 98; omega))
        have HY98 := Lib.hid hy98
        clear hy98
        go_wp2_with fail
        go_roundw
        case rel => exact ⟨k + 1, m + 1, _, c1, l ++ [b], by have := HL.out; simp; omega, by omega, by omega, by go_num, rfl, .inl HO1.out, by rw [← HG.out, HS.out, if_neg HY98.out], hbel2⟩
        case measure => simp [sliceLenH]; omega
    · have hfin : l = shG 398 [97, 98, 98] 2 := by rw [← HG.out, shG_end (by rw [HL.out]; exact hlt)]
      have hrd := HO.out.reads
      have h3 : (byV l).take 12 = byV shW := by rw [hfin, ← HR.out, byV, byV, List.map_take]
      have hrd2 := rds_takeH 12 hrd
      rw [h3] at hrd2
      have hsl : shW.length = 12 := by rw [← HR.out, ← hfin, List.length_take, HL.out]; omega
      have hcv := hrd2.conv (P := Tryz.prog) hsl 22 9 5 c Tryz.underlying22 Tryz.underlying5 Tryz.underlying9
      have hm0 : 12 ≤ m := by omega
      have hmc : m ≤ c := by have := HO.out.cap; rw [byV_length, HL.out] at this; exact this
      clear hfin hrd h3 hrd2
      go_wp2_with fail
      go_ret2
      exact ⟨rfl, hbel⟩
theorem shW_eq : strOf shW = { data := #[97, 98, 98, 97, 97, 98, 97, 98, 98, 97, 98, 98] } := by decide +kernel
end Go.Proofs.YtbegecoocgkbiaaGreatDoor
