/- SelfWord at 200 letters; starts. No condition. -/
import Derived.Test.YtfjmopiofcbpgaaSmo
import Derived.Test.YtfjmopiofcbpgaaByt
import Derived.Test.YtfjmopiofcbpgaaNum
import Derived.Test.YtfjmopiofcbpgaaHelp
import Derived.Test.YtfjmopiofcbpgaaApf
namespace Go.Proofs.Ytfjmopiofcbpgaa
open Go.RowKit
set_option linter.unusedVariables false

def slC (k : Nat) : UInt8 := UInt8.ofNat (97 + k % 2)
theorem slC_nat (k : Nat) : ((slC k).toNat : Int) = 97 + (k : Int) % 2 := by
  unfold slC
  rw [UInt8.toNat_ofNat']
  omega
/-- One round of SelfWord. -/
def slS (l : List UInt8) (k : Nat) : List UInt8 := if (l ++ [slC k]).getD k 0 = 98 then l ++ [slC k] ++ [slC k] else l ++ [slC k]
def slG : Nat → List UInt8 → Nat → List UInt8
  | 0, l, _ => l
  | f + 1, l, k => if l.length < 200 then slG f (slS l k) (k + 1) else l
theorem slG_end {l : List UInt8} (h : ¬ l.length < 200) (k : Nat) : ∀ f, slG f l k = l
  | 0 => rfl
  | f + 1 => by rw [slG, if_neg h]
theorem slG_step {l : List UInt8} (h : l.length < 200) {k f : Nat} (hf : k < f) : slG (f - k) l k = slG (f - (k + 1)) (slS l k) (k + 1) := by
  obtain ⟨q, hq⟩ : ∃ q, f - k = q + 1 := ⟨f - k - 1, by omega⟩
  rw [hq, slG, if_pos h]; congr 1; omega
/-- The first 200 letters. -/
def slW : List UInt8 := (slG 398 [97, 98, 98] 2).take 200
def sliceLen : Value → Nat
  | .slice _ n _ => n
  | _ => 0
theorem OwnF.lit3 (w : World) (E : TypeId) {B : Nat} {a b c : UInt8} {fr : Nat × Nat} : OwnF (w.alloc (.cells #[.int .u8 (a.toNat : Int), .int .u8 (b.toNat : Int), .int .u8 (c.toNat : Int)] E fr)) B E (.slice (some ⟨w.heap.size, 0, none⟩) 3 3) (byV [a, b, c]) := by
  refine .inr ⟨w.heap.size, rfl, fun k u hu => ⟨_, rfl, by simp, ?_⟩⟩
  have hk : k < 3 := by have := (List.getElem?_eq_some_iff.1 hu).1; simpa [byV] using this
  have h := heap_alloc_new w (.cells #[.int .u8 (a.toNat : Int), .int .u8 (b.toNat : Int), .int .u8 (c.toNat : Int)] E fr)
  match k, hk, hu with
  | 0, _, hu =>
    simp [byV] at hu; subst hu
    simpa [Addr.add] using cell_of_row _ _ 0 _ _ fr h
  | 1, _, hu =>
    simp [byV] at hu; subst hu
    simpa [Addr.add] using cell_of_row _ _ 1 _ _ fr h
  | 2, _, hu =>
    simp [byV] at hu; subst hu
    simpa [Addr.add] using cell_of_row _ _ 2 _ _ fr h
theorem rds_takeS {w : World} {B : Nat} {A : Option Addr} {xs : List Value} (n : Nat) (h : Rds w B A xs) : Rds w B A (xs.take n) := fun k u hu => by
  refine h k u ?_
  rw [List.getElem?_take] at hu
  split at hu
  · exact hu
  · cases hu
set_option maxRecDepth 4000 in
set_option maxHeartbeats 1000000 in
theorem iSelf_200 (w : World) :
    Calls Try.prog 6 #[.int .i64 200] w fun e w' => e = .returned (.tuple #[.string (strOf slW), .bool true]) ∧ Below w.heap.size w w' := by
  have kc := fun (w : World) (C : Array Value) (n c : Nat) => Lib.run_convert_bytes_const (P := Try.prog) w 22 5 C n c Try.underlying22 Try.underlying5
  have HR := Lib.hid (show (slG 398 [97, 98, 98] 2).take 200 = slW from rfl)
  go_enter Try.func6, Try.ntmps6
  go_wp2_with (go_at_call 45; refine (within_yes _ _ _ ⟨by omega, by omega⟩ _).mono ?_; rintro e w' ⟨rfl, rfl⟩)
  clear kc
  go_loopw [4, 5, 6] (fun v i _ wr => ∃ k m : Nat, ∃ A c, ∃ l : List UInt8, l.length = m ∧ k + 1 ≤ m ∧ m ≤ 201 ∧ i = .int .i64 k ∧ v = .slice A m c ∧ OwnF wr w.heap.size 5 (.slice A m c) (byV l) ∧ slG (400 - k) l k = slG 398 [97, 98, 98] 2 ∧ Below w.heap.size w wr) (fun v _ _ _ => 202 - sliceLen v)
  case atStart =>
    exact ⟨2, 3, _, _, [97, 98, 98], rfl, by omega, by omega, rfl, rfl, OwnF.lit3 _ _, rfl, (Below.refl _ _).alloc (Nat.le_refl _) _⟩
  case round =>
    obtain ⟨k, m, A, c, l, hl, hkm, hm, rfl, rfl, hown, hg, hbel⟩ := hrel
    have HL := Lib.hid hl; have HO := Lib.hid hown; have HG := Lib.hid hg
    clear hl hown hg
    by_cases hlt : m < 200
    · have hc := slC_nat k
      obtain ⟨b, hb⟩ : ∃ b, slC k = b := ⟨_, rfl⟩
      rw [hb] at hc
      have hc2 : (97 + (k : Int) % 2) % 256 = (b.toNat : Int) := by omega
      obtain ⟨y, hy⟩ := some_of_lt (l := l ++ [b]) (k := k) (by have := HL.out; simp; omega)
      have hyd : (l ++ [b]).getD k 0 = y := by rw [List.getD_eq_getElem?_getD, hy]; rfl
      have hs1 := slG_step (l := l) (k := k) (f := 400) (by have := HL.out; omega) (by omega)
      unfold slS at hs1
      rw [hb, hyd] at hs1
      have HB := Lib.hid hb; have HC := Lib.hid hc; have HY := Lib.hid hy; have HS := Lib.hid hs1
      have hz := hbel.size
      have hm9 : m < 4294967296 := by omega
      have hdl : (byV l).length = m := by rw [byV_length]; exact HL.out
      have HDL := Lib.hid hdl
      have hk0 : (0 : Int) ≤ (k : Int) := by omega
      have hkm2 : (k : Int) < (m : Int) + 1 := by omega
      clear hdl hb hy hyd hs1 hc
      go_wp2_with (at_builtin; refine wp_append1F rfl (.tmp 22) (.tmp 24) 22 rfl _ 1 Try.underlying22 info_u8 rfl rfl HO.out _ rfl rfl m HDL.out hm9 (by decide) hz ?_)
      intro A1 c1 w1 hown1 hbel1 hsz1
      rw [← HC.out, byV_snoc] at hown1
      have hbel2 := hbel.trans hbel1
      have hcell := hown1.reads.at_ (k := k) (u := .int .u8 (y.toNat : Int)) (by rw [byV, List.getElem?_map, HY.out]; rfl)
      obtain ⟨ad, rfl, hcell⟩ := hcell
      have HO1 := Lib.hid hown1
      clear hown1 hbel1
      by_cases hy98 : y = 98
      · have hyn : (y.toNat : Int) = 98 := by rw [hy98]; rfl
        have hdl : (byV (l ++ [b])).length = m + 1 := by rw [byV_length, List.length_append]; have := HL.out; simp; omega
        have HDL1 := Lib.hid hdl; have HY98 := Lib.hid hy98
        have hz2 := hbel2.size
        have hm10 : m + 1 < 4294967296 := by omega
        clear hdl hy98
        go_wp2_with (at_builtin; refine wp_append1 rfl (.tmp 31) (.tmp 33) 22 rfl _ 1 Try.underlying22 info_u8 rfl rfl HO1.out _ rfl rfl (m + 1) HDL1.out hm10 (by decide) hz2 ?_)
        intro A2 c2 w2 hown2 hbel3 hsz2
        rw [← HC.out, byV_snoc] at hown2
        have HO2 := Lib.hid hown2
        clear hown2
        go_wp2_with fail
        go_roundw
        case rel => exact ⟨k + 1, m + 1 + 1, A2, c2, l ++ [b] ++ [b], by have := HL.out; simp; omega, by omega, by omega, by go_num, rfl, .inl HO2.out, by rw [← HG.out, HS.out, if_pos HY98.out], hbel2.trans hbel3⟩
        case measure => simp [sliceLen]; omega
      · have hyn : ((y.toNat : Int) == 98) = false := by
          rw [beq_eq_false_iff_ne]; intro h; exact hy98 (UInt8.toNat_inj.1 (by show y.toNat = 98; omega))
        have HY98 := Lib.hid hy98
        clear hy98
        go_wp2_with fail
        go_roundw
        case rel => exact ⟨k + 1, m + 1, _, c1, l ++ [b], by have := HL.out; simp; omega, by omega, by omega, by go_num, rfl, .inl HO1.out, by rw [← HG.out, HS.out, if_neg HY98.out], hbel2⟩
        case measure => simp [sliceLen]; omega
    · have hfin : l = slG 398 [97, 98, 98] 2 := by rw [← HG.out, slG_end (by rw [HL.out]; exact hlt)]
      have hrd := HO.out.reads
      have h3 : (byV l).take 200 = byV slW := by rw [hfin, ← HR.out, byV, byV, List.map_take]
      have hrd2 := rds_takeS 200 hrd
      rw [h3] at hrd2
      have hsl : slW.length = 200 := by rw [← HR.out, ← hfin, List.length_take, HL.out]; omega
      have hcv := hrd2.conv (P := Try.prog) hsl 22 9 5 c Try.underlying22 Try.underlying5 Try.underlying9
      have hm0 : 200 ≤ m := by omega
      have hmc : m ≤ c := by have := HO.out.cap; rw [byV_length, HL.out] at this; exact this
      clear hfin hrd h3 hrd2
      go_wp2_with fail
      go_ret2
      exact ⟨rfl, hbel⟩
set_option maxHeartbeats 400000 in
theorem lstarts_yes (s t : ByteArray) (hs : s.size ≤ maxLen) (ht : t.size ≤ s.size) (hp : s.extract 0 t.size = t) (w : World) :
    Calls Try.prog 9 #[.string s, .string t] w fun e w' => e = .returned (.bool true) ∧ w = w' := by
  have h1 : ((s.extract 0 t.size).toList == t.toList) = true := by rw [hp, str_eq]; exact decide_eq_true rfl
  have h2 : (t.size : Int) ≤ (s.size : Int) := by omega
  clear hp
  go_enter Try.func9, Try.ntmps9
  go_wp2_with fail
  go_ret
  exact ⟨rfl, rfl⟩
end Go.Proofs.Ytfjmopiofcbpgaa
