/- The matrix of a substitution, both. Asks the shelf's text (strings.Count). No condition but the bounds. -/
import Derived.Test.YtbegecoocgkbiaaGreatDoorM17
import Derived.Test.YtbegecoocgkbiaaGreatDoorFix
import Derived.Test.YtbegecoocgkbiaaGreatDoorShelf
namespace Go.Proofs.YtbegecoocgkbiaaGreatDoor
open Go.RowKit
set_option linter.unusedVariables false

theorem info_ints : (Tryz.prog.info? 34).map (fun i => (i.zero, i.size, i.bytes)) = some (some (.slice none 0 0), 1, 24) := by kernel_rfl
theorem u8_of (k : Nat) (hk : k < 4) : (UInt8.ofNat (97 + k)).toNat = 97 + k := by rw [UInt8.toNat_ofNat']; omega
theorem mtR_at {zs : List ByteArray} {k j : Nat} {y : ByteArray} (h : zs[j]? = some y) : (mtR zs k)[j]? = some (ctC k y) := map_at _ h
theorem ints_next {r : List Int} {j : Nat} {x : Int} (h : r[j]? = some x) : ints (r.take (j + 1)) = ints (r.take j) ++ [Value.int .i64 x] := by
  rw [List.take_add_one, h, ints_app]; rfl
theorem mt_next {zs : List ByteArray} {k : Nat} (h : k < zs.length) : (mtL zs).take (k + 1) = (mtL zs).take k ++ [mtR zs k] := by
  rw [List.take_add_one, mt_row h]; rfl
theorem mt_len (zs : List ByteArray) : (mtL zs).length = zs.length := by simp [mtL]
theorem mtR_len (zs : List ByteArray) (k : Nat) : (mtR zs k).length = zs.length := by simp [mtR]
theorem count_let (y : ByteArray) (k : Nat) (hk : k < 4) (w : World) :
    Calls Tryz.prog 118 #[.string y, .string (({ data := #[97, 98, 99, 100] } : ByteArray).extract k (k + 1))] w fun e w' => e = .returned (.int .i64 (ctC k y)) ∧ w = w' := by
  match k, hk with
  | 0, _ => exact (Tryz.strings_Count_one y 97 w).mono fun e w' h => ⟨h.1, h.2.symm⟩
  | 1, _ => exact (Tryz.strings_Count_one y 98 w).mono fun e w' h => ⟨h.1, h.2.symm⟩
  | 2, _ => exact (Tryz.strings_Count_one y 99 w).mono fun e w' h => ⟨h.1, h.2.symm⟩
  | 3, _ => exact (Tryz.strings_Count_one y 100 w).mono fun e w' h => ⟨h.1, h.2.symm⟩
set_option maxRecDepth 4000 in
set_option maxHeartbeats 1000000 in
theorem iMatrix_any (zs : List ByteArray) (A : Option Addr) (nz cz B : Nat) (w : World) (hl : zs.length = nz) (h4 : nz ≤ 4) (hsz : ∀ x ∈ zs, x.size ≤ 8) (hrd : Rds w B A (zs.map Value.string)) (hB : B ≤ w.heap.size) :
    Calls Tryz.prog 74 #[.agg #[.slice A nz cz]] w fun e w' => ∃ g c vs, e = .returned (.slice (some ⟨g, 0, none⟩) nz c) ∧ Bld w' w.heap.size 34 g nz c vs (mtL zs) ∧ Below w.heap.size w w' := by
  have bA : Below w.heap.size w (w.alloc (.cells #[.slice A nz cz] 25)) := (Below.refl _ _).alloc (Nat.le_refl _) _
  have zA : (w.alloc (.cells #[.slice A nz cz] 25)).heap.size = w.heap.size + 1 := by simp
  have h0 := cell_of_row _ _ 0 _ _ (0, 0) (heap_alloc_new w (.cells #[.slice A nz cz] 25))
  have hE := Bld.empty (B := w.heap.size + 1) (E := 34) (w.alloc (.cells #[.slice A nz cz] 25)) (by omega)
  have bE : Below (w.heap.size + 1) (w.alloc (.cells #[.slice A nz cz] 25)) ((w.alloc (.cells #[.slice A nz cz] 25)).alloc (.cells #[] 34)) := (Below.refl _ _).alloc (by omega) _
  rw [zA] at hE
  have HRD := Lib.hid hrd; have H0 := Lib.hid h0; have HE := Lib.hid hE; have HZ := Lib.hid hsz; have HL := Lib.hid hl
  clear hrd h0 hE hsz hl
  go_enter Tryz.func74, Tryz.ntmps74
  go_wp2_with fail
  generalize hw1 : w.alloc (.cells #[.slice A nz cz] 25) = w1 at *
  clear hw1
  go_loopw [3, 4, 5, 7, 12] (fun out _ _ _ i wr => ∃ (k g c : Nat) (vs : List Value), k ≤ nz ∧ i = .int .i64 k ∧ out = .slice (some ⟨g, 0, none⟩) k c ∧ Bld wr (w.heap.size + 1) 34 g k c vs ((mtL zs).take k) ∧ Below (w.heap.size + 1) w1 wr) (fun _ _ _ _ i _ => nz - (intOf i).toNat)
  case atStart => exact ⟨0, _, 0, [], by omega, rfl, rfl, HE.out, bE⟩
  case round =>
    clear bE HE
    obtain ⟨k, g, c, vs, hk, rfl, rfl, hb, hbel⟩ := hrel
    have hbw : Below w.heap.size w wr := bA.trans (hbel.mono (by omega))
    have hz := hbel.size
    by_cases hlt : k < nz
    · have hbox : wr.cell? ⟨w.heap.size, 0, none⟩ = some (.slice A nz cz) := (hbel.cell (p := ⟨w.heap.size, 0, none⟩) (by show w.heap.size < w.heap.size + 1; omega)).trans H0.out
      have hbox2 : (wr.alloc (.cells #[] 3)).cell? ⟨w.heap.size, 0, none⟩ = some (.slice A nz cz) := (((Below.refl wr.heap.size wr).alloc (Nat.le_refl _) (.cells #[] 3)).cell (p := ⟨w.heap.size, 0, none⟩) (by show w.heap.size < wr.heap.size; omega)).trans hbox
      have hlt2 : (k : Int) < (nz : Int) := by omega
      have HBD := Lib.hid hb
      clear hb
      go_wp2_with fail
      obtain ⟨wo, rfl⟩ : ∃ z : World, z = wr := ⟨_, rfl⟩
      go_loopw [5, 7, 19] (fun row _ i wv => ∃ (j q cq : Nat), j ≤ nz ∧ i = .int .i64 j ∧ row = .slice (some ⟨q, 0, none⟩) j cq ∧ Own wv wo.heap.size 3 (.slice (some ⟨q, 0, none⟩) j cq) (ints ((mtR zs k).take j)) ∧ Below wo.heap.size wo wv) (fun _ _ i _ => nz - (intOf i).toNat)
      case atStart => exact ⟨0, wo.heap.size, 0, by omega, rfl, rfl, Own.empty (Nat.le_refl _), (Below.refl _ _).alloc (Nat.le_refl _) _⟩
      case round =>
        obtain ⟨j, q, cq, hj, rfl, rfl, hown, hbe2⟩ := hrel
        have hz2 := hbe2.size
        have HO := Lib.hid hown
        clear hown
        by_cases hjl : j < nz
        · have hjl2 : (j : Int) < (nz : Int) := by omega
          obtain ⟨y, hy⟩ := some_of_lt (l := zs) (k := j) (by rw [HL.out]; exact hjl)
          have hbw2 : Below w.heap.size w wr := hbw.trans (hbe2.mono (by omega))
          obtain ⟨ad, rfl, hc⟩ := (HRD.out.below hbw2 hB).at_ (map_at Value.string hy)
          have hnx := ints_next (mtR_at (k := k) hy)
          have hl3 : (ints ((mtR zs k).take j)).length = j := by rw [ints_len, List.length_take, mtR_len, HL.out]; omega
          have hy8 := HZ.out y (List.mem_of_getElem? hy)
          have hcf := count_let y k (by omega) wr
          have hcb := ctC_bd (i := k) hy8
          have HNX := Lib.hid hnx; have HL3 := Lib.hid hl3; have HCF := Lib.hid hcf
          have hm9 : j < 4294967296 := by omega
          skip
          obtain ⟨ct, hct⟩ : ∃ ct, ctC k y = ct := ⟨_, rfl⟩
          rw [hct] at HCF HNX hcb
          clear hy hnx hl3 hcf hct hbw2
          go_wp2_with fail
          refine HCF.out.mono ?_
          rintro e w2 ⟨rfl, rfl⟩
          go_wp2_with (at_builtin; refine wp_append4 rfl (.tmp 23) (.tmp 30) 34 rfl _ 8 Tryz.underlying34 info_int rfl j cq rfl HO.out _ rfl rfl HL3.out hm9 (by decide) hz2 ?_)
          intro g4 c4 w4 ha4
          have hown4 := ha4.own
          rw [← HNX.out] at hown4
          have hbe4 := hbe2.trans ha4.bel
          have HO4 := Lib.hid hown4
          clear ha4 hown4
          go_wp2_with fail
          go_roundw
          case rel => exact ⟨j + 1, g4, c4, by omega, by go_num, rfl, HO4.out, hbe4⟩
          case measure => simp [intOf]; omega
        · have hje : j = nz := by omega
          subst hje
          have htk : (mtR zs k).take zs.length = mtR zs k := List.take_of_length_le (by rw [mtR_len]; omega)
          have hown := HO.out
          rw [← HL.out, htk] at hown
          have hrv := RowV.ofOwn (go := g) hown (mtR_len zs k) HBD.out.lt.2
          rw [HL.out] at hrv
          have hbd := HBD.out.below hbe2
          have hnx := mt_next (zs := zs) (k := k) (by rw [HL.out]; exact hlt)
          have HBD2 := Lib.hid hbd; have HRV := Lib.hid hrv; have HNX := Lib.hid hnx
          have hz3 : w.heap.size + 1 ≤ wr.heap.size := by omega
          have hm9 : k < 4294967296 := by omega
          clear hown hrv hbd hnx htk HO HBD
          go_wp2_with (at_builtin; refine wp_append4 rfl (.tmp 33) (.tmp 35) 37 rfl _ 24 Tryz.underlying37 info_ints rfl k c rfl HBD2.out.own _ rfl rfl HBD2.out.vlen hm9 (by decide) hz3 ?_)
          intro g4 c4 w4 ha4
          have hb4 := HBD2.out.add4 HRV.out ha4
          rw [← HNX.out] at hb4
          have HB4 := Lib.hid hb4
          have hbe4 : Below (w.heap.size + 1) w1 w4 := (hbel.trans (hbe2.mono (by omega))).trans ha4.bel
          clear ha4 hb4
          go_wp2_with fail
          go_roundw
          case rel => exact ⟨k + 1, g4, c4, _, by omega, by go_num, rfl, HB4.out, hbe4⟩
          case measure => simp [intOf]; omega
    · have hke : k = nz := by omega
      subst hke
      have htk : (mtL zs).take zs.length = mtL zs := List.take_of_length_le (by rw [mt_len]; omega)
      have hb2 := hb
      rw [← HL.out, htk] at hb2
      rw [HL.out] at hb2
      have HB2 := Lib.hid hb2
      clear hb hb2 htk
      go_wp2_with fail
      go_ret
      exact ⟨g, c, vs, rfl, HB2.out.lower (by omega), hbw⟩
end Go.Proofs.YtbegecoocgkbiaaGreatDoor
