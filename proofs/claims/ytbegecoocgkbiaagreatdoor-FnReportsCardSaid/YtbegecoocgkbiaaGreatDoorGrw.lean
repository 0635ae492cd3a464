/- The growing letters of a substitution, both. No condition but the bounds. -/
import Derived.Test.YtbegecoocgkbiaaGreatDoorFxp
import Derived.Test.YtbegecoocgkbiaaGreatDoorM1
namespace Go.Proofs.YtbegecoocgkbiaaGreatDoor
open Go.RowKit
set_option linter.unusedVariables false

/-- A letter's name. -/
def lx (k : Nat) : ByteArray := ({ data := #[97, 98, 99, 100] } : ByteArray).extract k (k + 1)
theorem lx_size {k : Nat} (h : k < 4) : (lx k).size = 1 := by
  match k, h with
  | 0, _ => rfl
  | 1, _ => rfl
  | 2, _ => rfl
  | 3, _ => rfl
theorem lx_L {k : Nat} (h : k < 4) : L (lx k) = [UInt8.ofNat (97 + k)] := by
  match k, h with
  | 0, _ => rfl
  | 1, _ => rfl
  | 2, _ => rfl
  | 3, _ => rfl
theorem lx_im {k n : Nat} (h : k < 4) (hn : k < n) : imB n (lx k) = true := by
  have hw : isW (L (lx k)) = true := by
    rw [lx_L h]
    match k, h with
    | 0, _ => rfl
    | 1, _ => rfl
    | 2, _ => rfl
    | 3, _ => rfl
  have h2 : (UInt8.ofNat (97 + k)).toNat = 97 + k := by rw [UInt8.toNat_ofNat']; omega
  rw [imB, letB, lx_size h, hw, lx_L h, winL, List.all_cons, List.all_nil]
  simp only [decide_true, Bool.true_and, Bool.and_true, decide_eq_true_eq]
  omega
/-- The growing letters among the first k. -/
def grA (zs : List ByteArray) : Nat → ByteArray
  | 0 => { data := #[] }
  | k + 1 => if growB zs (lx k) = true then grA zs k ++ lx k else grA zs k
theorem grA_size (zs : List ByteArray) : ∀ k, k ≤ 4 → (grA zs k).size ≤ k
  | 0, _ => by simp [grA]; rfl
  | k + 1, h => by
    have := grA_size zs k (by omega)
    rw [grA]
    split
    · rw [ByteArray.size_append, lx_size (by omega)]; omega
    · omega
def grV (zs : List ByteArray) : ByteArray := grA zs zs.length
theorem gr_at {zs : List ByteArray} {k : Nat} {x : ByteArray} (h : zs[k]? = some x) (hk : k < 4) : growB zs (lx k) = (decide (1 < x.size) && decide ((L x).headD 0 = UInt8.ofNat (97 + k))) := by
  have hkn := (List.getElem?_eq_some_iff.1 h).1
  have h2 : (UInt8.ofNat (97 + k)).toNat = 97 + k := by rw [UInt8.toNat_ofNat']; omega
  have hg : imgS zs ((L (lx k)).headD 0) = x := by
    rw [lx_L hk]
    show zs.getD ((UInt8.ofNat (97 + k)).toNat - 97) _ = x
    rw [h2, show 97 + k - 97 = k by omega, List.getD_eq_getElem?_getD, h]; rfl
  rw [growB, lx_im hk hkn, hg, lx_L hk]; rfl
set_option maxRecDepth 4000 in
set_option maxHeartbeats 1000000 in
theorem iGrow_yes (zs : List ByteArray) (A : Option Addr) (nz cz B : Nat) (w : World) (hl : zs.length = nz) (hsu : suOk zs = true) (hrd : Rds w B A (zs.map Value.string)) (hB : B ≤ w.heap.size) :
    Calls Tryz.prog 46 #[.agg #[.slice A nz cz]] w fun e w' => e = .returned (.string (grV zs)) ∧ Below w.heap.size w w' := by
  have bA : Below w.heap.size w (w.alloc (.cells #[.slice A nz cz] 25)) := (Below.refl _ _).alloc (Nat.le_refl _) _
  have zA : (w.alloc (.cells #[.slice A nz cz] 25)).heap.size = w.heap.size + 1 := by simp
  have h0 := cell_of_row _ _ 0 _ _ (0, 0) (heap_alloc_new w (.cells #[.slice A nz cz] 25))
  have h4 := (su_g hsu).1
  have h8 : ∀ x ∈ zs, x.size ≤ 8 := fun x hx => ((su_g hsu).2 x hx).2.1
  have hc1 := iSubstOk_any zs A cz B _ (by omega) (by omega) (fun x hx => by have := h8 x hx; unfold maxLen; omega) (hrd.below bA hB)
  rw [hl, hsu] at hc1
  have hc2 := fun k (hk : k < 4) v hv hr => isGrowing_any zs A nz cz B (lx k) v hl (by rw [lx_size hk]; unfold maxLen; omega) (by omega) (fun x hx => by have := h8 x hx; omega) hr hv
  obtain ⟨V, hV⟩ : ∃ V, grV zs = V := ⟨_, rfl⟩
  rw [hV]
  have HC1 := Lib.hid hc1; have HC2 := Lib.hid hc2; have HRD := Lib.hid hrd; have H0 := Lib.hid h0; have HL := Lib.hid hl; have HV := Lib.hid hV
  clear hc1 hc2 hrd h0 h8 hsu hV
  rw [hl] at h4
  clear hl
  go_enter Tryz.func46, Tryz.ntmps46
  go_wp2_with fail
  refine HC1.out.mono ?_
  rintro e w1 ⟨rfl, b1⟩
  have bw1 : Below w.heap.size w w1 := bA.trans (b1.mono (by omega))
  have z1 := b1.size
  rw [zA] at z1
  have k1 : w1.cell? ⟨w.heap.size, 0, none⟩ = some (.slice A nz cz) := (b1.cell (p := ⟨w.heap.size, 0, none⟩) (by show w.heap.size < (w.alloc _).heap.size; omega)).trans H0.out
  go_wp2_with fail
  go_loopw [3, 4, 5, 12] (fun out _ _ i wr => ∃ (k : Nat) (o : ByteArray), k ≤ nz ∧ i = .int .i64 k ∧ out = .string o ∧ o = grA zs k ∧ o.size ≤ 4 ∧ Below w1.heap.size w1 wr) (fun _ _ _ i _ => nz - (intOf i).toNat)
  case atStart => exact ⟨0, _, by omega, rfl, rfl, rfl, by decide, Below.refl _ _⟩
  case round =>
    obtain ⟨k, o, hk, rfl, rfl, ho, hos, hbel⟩ := hrel
    by_cases hlt : k < nz
    · have hbw := bw1.trans (hbel.mono (Nat.le_trans (by omega) z1))
      have hz := hbel.size
      have kr : wr.cell? ⟨w.heap.size, 0, none⟩ = some (.slice A nz cz) := (hbel.cell (p := ⟨w.heap.size, 0, none⟩) (by show w.heap.size < w1.heap.size; omega)).trans k1
      have hcg := HC2.out k (by omega) wr (by omega) (HRD.out.below hbw hB)
      have hoz := grA_size zs k (by omega)
      rw [← ho] at hoz
      have hg : grA zs (k + 1) = if growB zs (lx k) = true then o ++ lx k else o := by rw [grA, ho]
      have hlt2 : (k : Int) < (nz : Int) := by omega
      have hx1 := lx_size (show k < 4 by omega)
      obtain ⟨gb, hgb⟩ : ∃ gb, growB zs (lx k) = gb := ⟨_, rfl⟩
      rw [hgb] at hcg hg
      unfold lx at hcg
      have HCG := Lib.hid hcg; have HG := Lib.hid hg
      clear hcg hg ho hgb
      go_wp2_with fail
      refine HCG.out.mono ?_
      rintro e w2 ⟨rfl, b2⟩
      have hbe2 := hbel.trans (b2.mono hz)
      unfold lx at hx1
      cases gb with
      | true =>
        go_wp2_with fail
        go_roundw
        case rel => exact ⟨k + 1, _, by omega, by go_num, rfl, by rw [HG.out]; rfl, by rw [ByteArray.size_append, hx1]; omega, hbe2⟩
        case measure => simp [intOf]; omega
      | false =>
        go_wp2_with fail
        go_roundw
        case rel => exact ⟨k + 1, o, by omega, by go_num, rfl, by rw [HG.out]; rfl, hos, hbe2⟩
        case measure => simp [intOf]; omega
    · have hke : k = nz := by omega
      subst hke
      have hfin : o = V := by rw [← HV.out, grV, HL.out, ho]
      clear ho
      subst hfin
      go_wp2_with fail
      go_ret
      exact ⟨rfl, bw1.trans (hbel.mono (Nat.le_trans (by omega) z1))⟩
end Go.Proofs.YtbegecoocgkbiaaGreatDoor
