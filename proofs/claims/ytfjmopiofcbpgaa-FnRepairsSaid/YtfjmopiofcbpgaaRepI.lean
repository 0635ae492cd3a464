/- Repairs, the program: the table of costs, the repaired word. No condition but the bounds. -/
import Derived.Test.YtfjmopiofcbpgaaRep
import Derived.RegionTactic
import Derived.BigRegion
import Derived.BigQuiet
import Derived.ChangeAlike
namespace Go.Proofs.Ytfjmopiofcbpgaa
open Go.RowKit
set_option linter.unusedVariables false

def abcd : ByteArray := { data := #[97, 98, 99, 100] }
theorem abcd_at (k : Nat) (hk : k < 4) : abcd.extract k (k + 1) = strOf [lt k] := by
  match k, hk with
  | 0, _ => rfl
  | 1, _ => rfl
  | 2, _ => rfl
  | 3, _ => rfl
theorem strOf_append (a b : List UInt8) : strOf a ++ strOf b = strOf (a ++ b) := by
  apply bytes_ext
  simp [strOf, ByteArray.data_append]
theorem abcd_two (p k : Nat) (hp : p < 4) (hk : k < 4) : abcd.extract p (p + 1) ++ abcd.extract k (k + 1) = prS p k := by
  rw [abcd_at p hp, abcd_at k hk, strOf_append]; rfl

theorem abcd_ix (k : Nat) (hk : k < 4) : abcd[k]'(by show k < 4; exact hk) = lt k := by
  match k, hk with
  | 0, _ => rfl
  | 1, _ => rfl
  | 2, _ => rfl
  | 3, _ => rfl
theorem imin (a b : Int) : (if b < a then b else a) = min a b := by split <;> omega
theorem abcd_x0 (k : Nat) (hk : k < 4) (h : 0 < (({ data := #[97, 98, 99, 100] } : ByteArray).extract k (k + 1)).size) : (({ data := #[97, 98, 99, 100] } : ByteArray).extract k (k + 1))[0]'h = lt k := by
  match k, hk with
  | 0, _ => rfl
  | 1, _ => rfl
  | 2, _ => rfl
  | 3, _ => rfl
theorem cst_eq {st : Bool} {b : UInt8} {k : Nat} (h : b = lt k) : cst st b k = 0 := by unfold cst dif; rw [h]; simp
theorem cst_ne {b : UInt8} {k : Nat} (h1 : b ≠ 63) (h2 : b ≠ lt k) : cst false b k = 1 := by unfold cst dif; simp [h1, h2]
section
variable {w w' : World} {B n : Nat} {E : TypeId} {g c : Nat} {xs : List Value}
/-- Rows of four, in a block of the call's own. -/
def Own4 (w : World) (B : Nat) (E : TypeId) (g n : Nat) (xs : List Value) : Prop := w.ownsRow B E 4 (.slice (some ⟨g, 0, none⟩) n n) n xs
theorem Own4.cell (h : Own4 w B E g n xs) {i k : Nat} (hi : i < n) (hk : k < 4) : w.cell? ⟨g, i * 4 + k, none⟩ = xs[i * 4 + k]? := World.ownsRow.cellAt h _ (by omega)
theorem Own4.frozen (h : Own4 w B E g n xs) (j : Nat) : w.frozen? ⟨g, j, none⟩ = false := World.ownsRow.frozenAt h j
theorem Own4.le (h : Own4 w B E g n xs) : B ≤ g ∧ g < w.heap.size := World.ownsRow.lt h g rfl
theorem Own4.len (h : Own4 w B E g n xs) : xs.length = n * 4 := h.1
theorem Own4.store (h : Own4 w B E g n xs) (j : Nat) (u : Value) : Own4 (w.setCell ⟨g, j, none⟩ u) B E g n (xs.set j u) ∧ Below B w (w.setCell ⟨g, j, none⟩ u) :=
  ⟨(World.ownsRow.stored h j u).1, (Below.refl _ _).setCell h.le.1 u⟩
theorem Own4.below (h : Own4 w B E g n xs) (hb : Below w.heap.size w w') : Own4 w' B E g n xs :=
  World.ownsRow.kept (row := none) h ⟨hb.os, hb.tape, hb.output, hb.size, fun k hk _ => hb.block k hk⟩ (.inr (by simp [Value.ownBlock]))
end
/-- Which places of the table are filled: the rows from m on, and the first k0 places of the row before. -/
def Fill (xs : List Value) (C : Nat → List Int) (n m k0 : Nat) : Prop :=
  ∀ j k, j < n → k < 4 → (m ≤ j ∨ (j + 1 = m ∧ k < k0)) → xs[j * 4 + k]? = some (.int .i64 ((C j).getD k 0))
theorem Fill.set {xs : List Value} {C : Nat → List Int} {n m k0 : Nat} (h : Fill xs C n (m + 1) k0) (hm : m < n) (hk : k0 < 4) (hl : xs.length = n * 4) {v : Int} (hv : (C m).getD k0 0 = v) :
    Fill (xs.set (m * 4 + k0) (.int .i64 v)) C n (m + 1) (k0 + 1) := by
  intro j k hj hk4 hor
  by_cases he : j * 4 + k = m * 4 + k0
  · have h1 : j = m := by omega
    have h2 : k = k0 := by omega
    subst h1 h2
    rw [List.getElem?_set_self (by omega), hv]
  · rw [List.getElem?_set_ne (by omega)]
    exact h j k hj hk4 (by omega)
theorem Fill.next {xs : List Value} {C : Nat → List Int} {n m : Nat} (h : Fill xs C n (m + 1) 4) : Fill xs C n m 0 := fun j k hj hk hor => h j k hj hk (by omega)
theorem Fill.open {xs : List Value} {C : Nat → List Int} {n m k0 : Nat} (h : Fill xs C n m k0) : Fill xs C n m 0 := fun j k hj hk hor => h j k hj hk (by omega)

theorem made4 {z : Value} (n m : Nat) : (madeCells #[z] n).toList.length = n := by rw [toList_madeCells_one]; simp
theorem has_abcd (ss : List ByteArray) (A : Option Addr) (c B : Nat) (w : World) (p k : Nat) (hp : p < 4) (hk : k < 4) (hn : ss.length ≤ 4294967296) (hrd : Rds w B A (ss.map Value.string)) (n : Nat) :
    Calls Try.prog 70 #[.slice A ss.length c, .string (abcd.extract p (p + 1) ++ abcd.extract k (k + 1))] (w.drewN n) fun e w' => e = .returned (.bool (hasP ss p k)) ∧ Dr (w.drewN n) w' := by
  have h := containsS_any ss (abcd.extract p (p + 1) ++ abcd.extract k (k + 1)) A c B (w.drewN n) hn (hrd.dr ((Dr.refl _).drewN n))
  rw [abcd_two p k hp hk] at h ⊢
  exact h
set_option maxRecDepth 8000 in
set_option maxHeartbeats 1000000 in
theorem costs_any (s : ByteArray) (ss : List ByteArray) (A : Option Addr) (c B : Nat) (w : World) (hB : B ≤ w.heap.size) (hs : s.size ≤ 40) (hs0 : 1 ≤ s.size) (hn : ss.length ≤ 4294967296) (hrd : Rds w B A (ss.map Value.string)) :
    Calls Try.prog 90 #[.string s, .slice A ss.length c] w fun e w' => ∃ g xs, e = .returned (.slice (some ⟨g, 0, none⟩) s.size s.size) ∧ Own4 w' w.heap.size 94 g s.size xs ∧ Fill xs (crow false ss (L s)) s.size 0 0 ∧ Below w.heap.size w w' := by
  have HR := Lib.hid hrd; clear hrd
  obtain ⟨iz, hi, hiz⟩ : ∃ iz : TypeInfo, Try.prog.info? 94 = some iz ∧ (iz.zero = some (.agg #[.int .i64 0, .int .i64 0, .int .i64 0, .int .i64 0]) ∧ iz.size = 4 ∧ iz.bytes = 32) := by
    have h : (Try.prog.info? 94).map (fun i => (i.zero, i.size, i.bytes)) = some (some (.agg #[.int .i64 0, .int .i64 0, .int .i64 0, .int .i64 0]), 4, 32) := by kernel_rfl
    cases hq : Try.prog.info? 94 with
    | none => rw [hq] at h; simp at h
    | some iz => rw [hq] at h; simp at h; exact ⟨iz, rfl, h⟩
  have hmk0 := run_make_full (P := Try.prog) w w.heap.size 91 94 iz _ 4 Try.underlying91 hi hiz.1 hiz.2.1 .i64 .i64 s.size (by rw [hiz.2.2]; omega) (by unfold maxLen; omega) (Nat.le_refl _)
  obtain ⟨wm, hmk, hown, hgr⟩ := hmk0
  have hgr2 : Below w.heap.size w wm := ⟨hgr.os, hgr.tape, hgr.output, hgr.size, fun k hk => hgr.block k hk (by simp)⟩
  have HO0 := Lib.hid hown
  have HG0 := Lib.hid hgr2
  clear hown hgr hgr2 hi hiz
  go_enter Try.func90, Try.ntmps90
  go_wp2_with fail
  have hg1 := HG0.out.size
  go_loopw [6, 7, 8, 9, 20, 28] (fun i _ _ _ _ _ wr => ∃ m : Nat, ∃ x : Int, ∃ xs, m ≤ s.size ∧ x = (m : Int) - 1 ∧ i = .int .i64 x ∧ Own4 wr w.heap.size 94 w.heap.size s.size xs ∧ Fill xs (crow false ss (L s)) s.size m 0 ∧ Below w.heap.size w wr) (fun i _ _ _ _ _ _ => (intOf i + 1).toNat)
  case atStart => exact ⟨s.size, (s.size : Int) - 1, _, by omega, rfl, rfl, HO0.out, fun j k hj hk hor => by omega, HG0.out⟩
  case round =>
    clear hmk hg1 HG0 HO0
    obtain ⟨m, x, xs, hm, hx, rfl, hown, hfil, hbel⟩ := hrel
    have x1 : x ≤ (m : Int) - 1 := by omega
    have x2 : (m : Int) - 1 ≤ x := by omega
    have HX := Lib.hid hx; clear hx
    by_cases hlt : 0 ≤ x
    · obtain ⟨m, rfl⟩ : ∃ q, m = q + 1 := ⟨m - 1, by omega⟩
      have hxm : x = (m : Int) := by omega
      subst hxm
      have HO := Lib.hid hown; have HF := Lib.hid hfil; clear hown hfil x1 x2 HX
      go_wp2_with fail
      obtain ⟨wo, rfl⟩ : ∃ wo : World, wo = wr := ⟨_, rfl⟩
      go_loopw [7, 8, 9, 20, 28] (fun _ _ _ i _ wr => ∃ k0 : Nat, ∃ ys, k0 ≤ 4 ∧ i = .int .i64 k0 ∧ Own4 wr w.heap.size 94 w.heap.size s.size ys ∧ Fill ys (crow false ss (L s)) s.size (m + 1) k0 ∧ Below w.heap.size w wr) (fun _ _ _ i _ _ => 4 - (intOf i).toNat)
      case atStart => exact ⟨0, xs, by omega, rfl, HO.out, HF.out, hbel⟩
      case round =>
        clear hbel HO HF
        obtain ⟨k0, ys, hk0, rfl, hown2, hfil2, hbel2⟩ := hrel
        have hB2 := hbel2.size
        by_cases hk4 : k0 < 4
        · by_cases hlast : m + 1 = s.size
          · have hle : ((m : Int) == (s.size : Int) - 1) = true := by simp; omega
            have HL := Lib.hid hlast
            have hl1 : m + 1 ≤ s.size := by omega
            have hl2 : s.size ≤ m + 1 := by omega
            clear hlast
            go_wp2_with fail
            obtain ⟨bb, hbb⟩ : ∃ bb, s[m]'(by omega) = bb := ⟨_, rfl⟩
            have HB : Hid ((L s).getD m 0 = bb) := by
              show (L s).getD m 0 = bb
              rw [← hbb, List.getD_eq_getElem?_getD, List.getElem?_eq_getElem (by rw [L_len]; omega)]; rfl
            have habc : abcd[k0]'(by show k0 < 4; omega) = lt k0 := abcd_ix k0 hk4
            unfold abcd at habc
            have HO2 := Lib.hid hown2; have HF2 := Lib.hid hfil2; clear hown2 hfil2
            by_cases h63 : bb = 63
            · have hd1 : ((bb.toNat : Int) != 63) = false := by rw [h63]; rfl
              have H63 := Lib.hid h63; clear h63
              have hv : (crow false ss (L s) m).getD k0 0 = 0 := by
                rw [List.getD_eq_getElem?_getD, cell_last _ _ _ _ _ hk4 (by rw [L_len]; exact HL.out), HB.out, H63.out]
                rfl
              have HV := Lib.hid hv; clear hv
              have hfz := HO2.out.frozen (m * 4 + k0)
              have hcell := HO2.out.cell (i := m) (k := k0) (by omega) (by omega)
              obtain ⟨old, hold⟩ := some_of_lt (l := ys) (k := m * 4 + k0) (by have := HO2.out.len; omega)
              rw [hold] at hcell
              clear hold
              try (go_wp2_with fail)
              go_quiet (fail)
              go_wp2_with fail
              have hst := (HO2.out.below ((Dr.refl _).drewN nq).below).store (m * 4 + k0) (.int .i64 0)
              refine ⟨⟨k0 + 1, _, by omega, by go_num, hst.1, HF2.out.set (by omega) hk4 HO2.out.len HV.out, (hbel2.trans ((Dr.refl _).drewN nq).below).trans hst.2⟩, by simp [intOf]; omega⟩
            · have hd1 : ((bb.toNat : Int) != 63) = true := by rw [bne_iff_ne]; intro h; apply h63; apply UInt8.toNat_inj.1; show bb.toNat = 63; omega
              have H63 := Lib.hid h63; clear h63
              by_cases hlt2 : bb = lt k0
              · have hd2 : ((bb.toNat : Int) != (lt k0).toNat) = false := by rw [hlt2]; simp
                have H2 := Lib.hid hlt2; clear hlt2
                have hv : (crow false ss (L s) m).getD k0 0 = 0 := by
                  rw [List.getD_eq_getElem?_getD, cell_last _ _ _ _ _ hk4 (by rw [L_len]; exact HL.out), HB.out, cst_eq H2.out]
                  rfl
                have HV := Lib.hid hv; clear hv
                have hfz := HO2.out.frozen (m * 4 + k0)
                have hcell := HO2.out.cell (i := m) (k := k0) (by omega) (by omega)
                obtain ⟨old, hold⟩ := some_of_lt (l := ys) (k := m * 4 + k0) (by have := HO2.out.len; omega)
                rw [hold] at hcell
                clear hold
                try (go_wp2_with fail)
                go_quiet (fail)
                go_wp2_with fail
                have hst := (HO2.out.below ((Dr.refl _).drewN nq).below).store (m * 4 + k0) (.int .i64 0)
                refine ⟨⟨k0 + 1, _, by omega, by go_num, hst.1, HF2.out.set (by omega) hk4 HO2.out.len HV.out, (hbel2.trans ((Dr.refl _).drewN nq).below).trans hst.2⟩, by simp [intOf]; omega⟩
              · have hd2 : ((bb.toNat : Int) != (lt k0).toNat) = true := by rw [bne_iff_ne]; intro h; apply hlt2; apply UInt8.toNat_inj.1; omega
                have H2 := Lib.hid hlt2; clear hlt2
                have hv : (crow false ss (L s) m).getD k0 0 = 1 := by
                  rw [List.getD_eq_getElem?_getD, cell_last _ _ _ _ _ hk4 (by rw [L_len]; exact HL.out), HB.out, cst_ne H63.out H2.out]
                  rfl
                have HV := Lib.hid hv; clear hv
                have hfz := HO2.out.frozen (m * 4 + k0)
                have hcell := HO2.out.cell (i := m) (k := k0) (by omega) (by omega)
                obtain ⟨old, hold⟩ := some_of_lt (l := ys) (k := m * 4 + k0) (by have := HO2.out.len; omega)
                rw [hold] at hcell
                clear hold
                try (go_wp2_with fail)
                go_quiet (fail)
                go_wp2_with fail
                have hst := (HO2.out.below ((Dr.refl _).drewN nq).below).store (m * 4 + k0) (.int .i64 1)
                refine ⟨⟨k0 + 1, _, by omega, by go_num, hst.1, HF2.out.set (by omega) hk4 HO2.out.len HV.out, (hbel2.trans ((Dr.refl _).drewN nq).below).trans hst.2⟩, by simp [intOf]; omega⟩
          · have hle : ((m : Int) == (s.size : Int) - 1) = false := by simp; omega
            have hl1 : m + 1 < s.size := by omega
            clear hlast
            obtain ⟨r, hr⟩ : ∃ r, crow false ss (L s) (m + 1) = r := ⟨_, rfl⟩
            have hbd : ∀ n, n < 4 → 0 ≤ r.getD n 0 ∧ r.getD n 0 ≤ 1000 := fun n hn => by
              rw [← hr]; exact crow_ge false ss (L s) ((L s).length - (m + 1)) (m + 1) (by rw [L_len]; omega) n hn
            have HBD := Lib.hid hbd; clear hbd
            have HR0 := Lib.hid hr; clear hr
            have hrow : ∀ n, n < 4 → wr.cell? ⟨w.heap.size, (m + 1) * 4 + n, none⟩ = some (.int .i64 (r.getD n 0)) := fun n hn => by
              rw [hown2.cell (by omega) hn, hfil2 (m + 1) n (by omega) hn (by omega), HR0.out]
            have HRW := Lib.hid hrow; clear hrow
            have HO2 := Lib.hid hown2; have HF2 := Lib.hid hfil2; clear hown2 hfil2
            go_wp2_with fail
            obtain ⟨w2, rfl⟩ : ∃ w2 : World, w2 = wr := ⟨_, rfl⟩
            go_loopw [8, 9, 28] (fun b _ i wr => ∃ j : Nat, j ≤ 4 ∧ i = .int .i64 j ∧ b = .int .i64 (bst ss k0 r j) ∧ Dr w2 wr) (fun _ _ i _ => 4 - (intOf i).toNat)
            case atStart => exact ⟨0, by omega, rfl, rfl, Dr.refl _⟩
            case round =>
              obtain ⟨j, hj, rfl, rfl, hd⟩ := hrel
              by_cases hj4 : j < 4
              · have hcell := (hd.below (B := w.heap.size + 1)).cell (p := ⟨w.heap.size, (m + 1) * 4 + j, none⟩) (Nat.lt_succ_self _)
                rw [HRW.out j hj4] at hcell
                obtain ⟨bs, hbs⟩ : ∃ bs, bst ss k0 r j = bs := ⟨_, rfl⟩
                obtain ⟨u, hu⟩ : ∃ u, r.getD j 0 = u := ⟨_, rfl⟩
                rw [hu] at hcell
                rw [hbs]
                have HBS := Lib.hid hbs; have HU := Lib.hid hu; clear hbs hu
                have HR1 := Lib.hid ((HR.out.below (hbel2.trans (hd.below.mono hB2)) hB))
                cases hh : hasP ss k0 j
                · have hmin : min bs u = min bs u := rfl
                  clear hmin
                  have hct := has_abcd ss A c B wr k0 j hk4 hj4 hn HR1.out
                  rw [hh] at hct
                  have HCT := Lib.hid hct; have HH := Lib.hid hh; clear hct hh
                  go_wp2_with fail
                  go_quiet ((go_at_call 70; exact quiet_dr (HCT.out _)))
                  go_wp2_with fail
                  go_roundw
                  case rel => exact ⟨j + 1, by omega, by go_num, by rw [bst, HH.out, HBS.out]; rfl, hd.trans ((Dr.refl _).drewN nq)⟩
                  case measure => simp [intOf]; omega
                · have hmin : min bs u = min bs u := rfl
                  clear hmin
                  have hct := has_abcd ss A c B wr k0 j hk4 hj4 hn HR1.out
                  rw [hh] at hct
                  have HCT := Lib.hid hct; have HH := Lib.hid hh; clear hct hh
                  go_wp2_with fail
                  go_quiet ((go_at_call 70; exact quiet_dr (HCT.out _)))
                  go_wp2_with fail
                  go_roundw
                  case rel => exact ⟨j + 1, by omega, by go_num, by rw [bst, if_pos HH.out, HBS.out, HU.out, imin], hd.trans ((Dr.refl _).drewN nq)⟩
                  case measure => simp [intOf]; omega
              · have hj4 : j = 4 := by omega
                subst hj4
                obtain ⟨bs, hbs⟩ : ∃ bs, bst ss k0 r 4 = bs := ⟨_, rfl⟩
                have b1 : 0 ≤ bs := by rw [← hbs]; exact bst_ge ss k0 r (fun n hn => (HBD.out n hn).1) 4 (by omega)
                have b2 : bs ≤ 1000 := by rw [← hbs]; exact bst_le ss k0 r 4
                have b3 : bs ≤ 9223372036854775806 := by omega
                rw [hbs]
                have HBS := Lib.hid hbs; clear hbs
                obtain ⟨bb, hbb⟩ : ∃ bb, s[m]'(by omega) = bb := ⟨_, rfl⟩
                have HB : Hid ((L s).getD m 0 = bb) := by
                  show (L s).getD m 0 = bb
                  rw [← hbb, List.getD_eq_getElem?_getD, List.getElem?_eq_getElem (by rw [L_len]; omega)]; rfl
                have habc : abcd[k0]'(by show k0 < 4; omega) = lt k0 := abcd_ix k0 hk4
                unfold abcd at habc
                have HO2' := Lib.hid (HO2.out.below hd.below)
                clear HO2
                obtain ⟨HO2, _⟩ : ∃ h : Hid (Own4 wr w.heap.size 94 w.heap.size s.size ys), True := ⟨HO2', trivial⟩
                have hbel3 := hbel2.trans (hd.below.mono hB2)
                clear hbel2 HO2'
                obtain ⟨hbel2, _⟩ : ∃ h : Below w.heap.size w wr, True := ⟨hbel3, trivial⟩
                have hcv : ∀ cc, cst false bb k0 = cc → (crow false ss (L s) m).getD k0 0 = min 1000 (cc + bs) := fun cc hc => by
                  rw [List.getD_eq_getElem?_getD, cell_next _ _ _ _ _ hk4 (by rw [L_len]; exact hl1), HB.out, HR0.out, HBS.out, hc]
                  rfl
                have HCV := Lib.hid hcv; clear hcv
                by_cases h63 : bb = 63
                · have hd1 : ((bb.toNat : Int) != 63) = false := by rw [h63]; rfl
                  have H63 := Lib.hid h63; clear h63
                  have hv : (crow false ss (L s) m).getD k0 0 = bs := by
                    rw [HCV.out 0 (by rw [H63.out]; rfl)]; omega
                  have HV := Lib.hid hv; clear hv
                  have hfz := HO2.out.frozen (m * 4 + k0)
                  have hcell := HO2.out.cell (i := m) (k := k0) (by omega) (by omega)
                  obtain ⟨old, hold⟩ := some_of_lt (l := ys) (k := m * 4 + k0) (by have := HO2.out.len; omega)
                  rw [hold] at hcell
                  clear hold
                  try (go_wp2_with fail)
                  go_quiet (fail)
                  go_wp2_with fail
                  have hst := (HO2.out.below ((Dr.refl _).drewN nq).below).store (m * 4 + k0) (.int .i64 bs)
                  refine ⟨⟨k0 + 1, _, by omega, by go_num, hst.1, HF2.out.set (by omega) hk4 HO2.out.len HV.out, (hbel2.trans ((Dr.refl _).drewN nq).below).trans hst.2⟩, by simp [intOf]; omega⟩
                · have hd1 : ((bb.toNat : Int) != 63) = true := by rw [bne_iff_ne]; intro h; apply h63; apply UInt8.toNat_inj.1; show bb.toNat = 63; omega
                  have H63 := Lib.hid h63; clear h63
                  by_cases hlt2 : bb = lt k0
                  · have hd2 : ((bb.toNat : Int) != (lt k0).toNat) = false := by rw [hlt2]; simp
                    have H2 := Lib.hid hlt2; clear hlt2
                    have hv : (crow false ss (L s) m).getD k0 0 = bs := by
                      rw [HCV.out 0 (cst_eq H2.out)]; omega
                    have HV := Lib.hid hv; clear hv
                    have hfz := HO2.out.frozen (m * 4 + k0)
                    have hcell := HO2.out.cell (i := m) (k := k0) (by omega) (by omega)
                    obtain ⟨old, hold⟩ := some_of_lt (l := ys) (k := m * 4 + k0) (by have := HO2.out.len; omega)
                    rw [hold] at hcell
                    clear hold
                    try (go_wp2_with fail)
                    go_quiet (fail)
                    go_wp2_with fail
                    have hst := (HO2.out.below ((Dr.refl _).drewN nq).below).store (m * 4 + k0) (.int .i64 bs)
                    refine ⟨⟨k0 + 1, _, by omega, by go_num, hst.1, HF2.out.set (by omega) hk4 HO2.out.len HV.out, (hbel2.trans ((Dr.refl _).drewN nq).below).trans hst.2⟩, by simp [intOf]; omega⟩
                  · have hd2 : ((bb.toNat : Int) != (lt k0).toNat) = true := by rw [bne_iff_ne]; intro h; apply hlt2; apply UInt8.toNat_inj.1; omega
                    have H2 := Lib.hid hlt2; clear hlt2
                    have hv : (crow false ss (L s) m).getD k0 0 = (if (1000 : Int) < bs + 1 then 1000 else bs + 1) := by
                      rw [HCV.out 1 (cst_ne H63.out H2.out)]; split <;> omega
                    have HV := Lib.hid hv; clear hv
                    have hfz := HO2.out.frozen (m * 4 + k0)
                    have hcell := HO2.out.cell (i := m) (k := k0) (by omega) (by omega)
                    obtain ⟨old, hold⟩ := some_of_lt (l := ys) (k := m * 4 + k0) (by have := HO2.out.len; omega)
                    rw [hold] at hcell
                    clear hold
                    try (go_wp2_with fail)
                    go_quiet (fail)
                    go_wp2_with fail
                    have hst := (HO2.out.below ((Dr.refl _).drewN nq).below).store (m * 4 + k0) (.int .i64 (if (1000 : Int) < bs + 1 then 1000 else bs + 1))
                    refine ⟨⟨k0 + 1, _, by omega, by go_num, hst.1, HF2.out.set (by omega) hk4 HO2.out.len HV.out, (hbel2.trans ((Dr.refl _).drewN nq).below).trans hst.2⟩, by simp [intOf]; omega⟩
        · have hk : k0 = 4 := by omega
          subst hk
          have hfil3 := hfil2.next
          have HO := Lib.hid hown2; have HF := Lib.hid hfil3; clear hown2 hfil2 hfil3
          go_wp2_with fail
          go_roundw
          case rel => exact ⟨m, (m : Int) - 1, ys, by omega, rfl, rfl, HO.out, HF.out, hbel2⟩
          case measure => simp [intOf]
    · have hm0 : m = 0 := by omega
      subst hm0
      have HO := Lib.hid hown; have HF := Lib.hid hfil; clear hown hfil
      go_wp2_with fail
      go_ret
      exact ⟨w.heap.size, rfl, xs, HO.out, HF.out, hbel⟩
end Go.Proofs.Ytfjmopiofcbpgaa
