/- Repairs, the reference: the table of costs. No condition but the bounds. -/
import Derived.Test.YtfgifbkkclkhiaaRepI
namespace Go.Proofs.Ytfgifbkkclkhiaa
open Go.RowKit
set_option linter.unusedVariables false

/-- A slice that lies behind block g and reads as xs. -/
def Far (w : World) (g : Nat) (A : Option Addr) (xs : List Value) : Prop := ∀ k u, xs[k]? = some u → ∃ b, A = some ⟨b, 0, none⟩ ∧ g < b ∧ b < w.heap.size ∧ w.cell? ⟨b, k, none⟩ = some u
section
variable {w w' : World} {g : Nat} {A : Option Addr} {xs : List Value}
theorem Far.keep (h : Far w g A xs) (hs : w.heap.size ≤ w'.heap.size) (hk : ∀ p : Addr, g < p.block → p.block < w.heap.size → w'.cell? p = w.cell? p) : Far w' g A xs := fun k u hu => by
  obtain ⟨b, e, h1, h2, h3⟩ := h k u hu
  exact ⟨b, e, h1, by omega, (hk _ h1 h2).trans h3⟩
theorem Far.below (h : Far w g A xs) (hb : Below w.heap.size w w') : Far w' g A xs := h.keep hb.size fun p _ hp => hb.cell hp
theorem Far.store (h : Far w g A xs) (hg : w.grownBy w' (some g)) : Far w' g A xs := h.keep hg.size fun p h1 h2 => by
  unfold World.cell?
  rw [hg.block p.block h2 (by simp; omega)]
end
theorem Own.far {w : World} {B g c : Nat} {A : Option Addr} {E : TypeId} {n : Nat} {xs : List Value} (h : Own w B E (.slice A n c) xs) (hg : g < B) : Far w g A xs := fun k u hu => by
  obtain ⟨hk, hu'⟩ := List.getElem?_eq_some_iff.1 hu
  obtain ⟨A', c', hv, _⟩ := h.shape
  injection hv with h1 h2 h3
  subst h2
  obtain ⟨b, rfl, hB, hs, hc, _, _⟩ := h.store hk
  exact ⟨b, rfl, by omega, hs, hc.trans hu⟩
/-- Rows m and following lie in the table xs. -/
def Tab (w : World) (g : Nat) (C : Nat → List Int) (n m : Nat) (xs : List Value) : Prop := ∀ j, m ≤ j → j < n → ∃ A c, xs[j]? = some (.slice A 4 c) ∧ Far w g A ((C j).map (Value.int .i64))
theorem Tab.below {w w' : World} {g : Nat} {C : Nat → List Int} {n m : Nat} {xs : List Value} (h : Tab w g C n m xs) (hb : Below w.heap.size w w') : Tab w' g C n m xs := fun j h1 h2 => by
  obtain ⟨A, c, e, hf⟩ := h j h1 h2
  exact ⟨A, c, e, hf.below hb⟩
theorem Tab.store {w w' : World} {g : Nat} {C : Nat → List Int} {n m c : Nat} {A : Option Addr} {xs : List Value} (h : Tab w g C n (m + 1) xs) (hm : m < xs.length) (hf : Far w g A ((C m).map (Value.int .i64))) (hg : w.grownBy w' (some g)) :
    Tab w' g C n m (xs.set m (.slice A 4 c)) := fun j h1 h2 => by
  by_cases he : j = m
  · subst he
    exact ⟨A, c, by rw [List.getElem?_set_self hm], hf.store hg⟩
  · obtain ⟨A', c', e, hf'⟩ := h j (by omega) h2
    exact ⟨A', c', by rw [List.getElem?_set_ne (by omega)]; exact e, hf'.store hg⟩
theorem take_snoc {l : List Int} {k : Nat} {x : Int} (h : l[k]? = some x) : ((l.take k).map (Value.int .i64)) ++ [Value.int .i64 x] = (l.take (k + 1)).map (Value.int .i64) := by
  rw [List.take_add_one, h]; simp

theorem at_abcd (ss : List ByteArray) (A : Option Addr) (c B : Nat) (w : World) (p k : Nat) (hp : p < 4) (hk : k < 4) (hn : ss.length ≤ 4294967296) (hrd : Rds w B A (ss.map Value.string)) (n : Nat) :
    Calls Try.prog 85 #[.slice A ss.length c, .string (abcd.extract p (p + 1) ++ abcd.extract k (k + 1))] (w.drewN n) fun e w' => e = .returned (.int .i64 (atIx ss (prS p k))) ∧ Dr (w.drewN n) w' := by
  have h := l06At_any ss (abcd.extract p (p + 1) ++ abcd.extract k (k + 1)) A c B (w.drewN n) hn (hrd.dr ((Dr.refl _).drewN n))
  rw [abcd_two p k hp hk] at h ⊢
  exact h
theorem u8_bd (x : Int) : 0 ≤ IntKind.u8.wrap x ∧ IntKind.u8.wrap x ≤ 255 := by
  have h : IntKind.u8.wrap x = x % 256 := by simp [IntKind.wrap, IntKind.bits, IntKind.signed]
  omega
theorem u8_letter (b : UInt8) (k : Nat) (hk : k < 4) : IntKind.u8.wrap ((b.toNat : Int) - 97) = (k : Int) ↔ b = lt k := by
  have h : IntKind.u8.wrap ((b.toNat : Int) - 97) = ((b.toNat : Int) - 97) % 256 := by simp [IntKind.wrap, IntKind.bits, IntKind.signed]
  have hb := b.toNat_lt
  have hl : (lt k).toNat = 97 + k := by unfold lt; rw [UInt8.toNat_ofNat']; omega
  rw [h, ← UInt8.toNat_inj, hl]
  omega
theorem Own.lit {w : World} {B n : Nat} {E : TypeId} (cs : Array Value) (hB : B ≤ w.heap.size) (hc : cs.size = n) (hn : n ≤ maxLen) : Own (w.alloc (.cells cs E)) B E (.slice (some ⟨w.heap.size, 0, none⟩) n n) cs.toList := by
  have h := World.ownsRow_lit (base := B) (e := E) (size := 1) w cs n hB hn (by omega)
  unfold Own
  rw [Array.length_toList, hc]; exact h
set_option maxRecDepth 8000 in
set_option maxHeartbeats 2000000 in
theorem sCosts_any (st : Bool) (s : ByteArray) (ss : List ByteArray) (A : Option Addr) (c B : Nat) (w : World) (hB : B ≤ w.heap.size) (hs : s.size ≤ 40) (hs0 : 1 ≤ s.size) (hn : ss.length ≤ 4294967296) (hrd : Rds w B A (ss.map Value.string)) :
    Calls Try.prog 84 #[.string s, .slice A ss.length c, .bool st] w fun e w' => ∃ g xs, e = .returned (.slice (some ⟨g, 0, none⟩) (s.size + 1) (s.size + 1)) ∧ Own w' w.heap.size 63 (.slice (some ⟨g, 0, none⟩) (s.size + 1) (s.size + 1)) xs ∧ xs.length = s.size + 1 ∧ Tab w' g (crow st ss (L s)) s.size 0 xs ∧ Below w.heap.size w w' := by
  have HR := Lib.hid hrd; clear hrd
  have hinfo : (Try.prog.info? 63).map (fun i => (i.zero, i.size, i.bytes)) = some (some (.slice none 0 0), 1, 24) := by kernel_rfl
  have hmk := run_make_row' (P := Try.prog) 79 63 _ 24 Try.underlying79 hinfo rfl .i64 .i64 (s.size + 1) (by omega) (by omega)
  simp only [show ((s.size + 1 : Nat) : Int) = (s.size : Int) + 1 from rfl] at hmk
  have hmade := Own.made (w := w) (B := w.heap.size) (E := 63) (z := .slice none 0 0) (n := s.size + 1) (Nat.le_refl _) (by unfold maxLen; omega)
  clear hinfo
  have hlen0 : (List.replicate (s.size + 1) (Value.slice none 0 0)).length = s.size + 1 := by simp
  obtain ⟨g, hg, hBg, hgs, hcell, hfr, hst⟩ := hmade.store (k := s.size) (by rw [hlen0]; omega)
  injection hg with hg
  injection hg with hg
  subst hg
  have hcell2 : (w.alloc (.cells (madeCells #[Value.slice none 0 0] (s.size + 1)) 63)).cell? ⟨w.heap.size, s.size, none⟩ = some (.slice none 0 0) := by
    rw [hcell]; simp
  have hcell3 : (madeCells #[Value.slice none 0 0] (s.size + 1))[s.size]? = some (.slice none 0 0) := by
    rw [← Array.getElem?_toList, toList_madeCells_one]; simp
  have HST := Lib.hid hst
  have HMD := Lib.hid hmade; clear hmade hcell hst hBg
  go_enter Try.func84, Try.ntmps84
  go_wp2_with fail
  go_loopw [8, 9, 10, 11, 12, 13] (fun i _ _ _ _ _ wr => ∃ m : Nat, ∃ x : Int, ∃ xs, m ≤ s.size ∧ x = (m : Int) - 1 ∧ i = .int .i64 x ∧ Own wr w.heap.size 63 (.slice (some ⟨w.heap.size, 0, none⟩) (s.size + 1) (s.size + 1)) xs ∧ xs.length = s.size + 1 ∧ Tab wr w.heap.size (crow st ss (L s)) s.size m xs ∧ Below w.heap.size w wr) (fun i _ _ _ _ _ _ => (intOf i + 1).toNat)
  case atStart =>
    refine ⟨s.size, (s.size : Int) - 1, _, by omega, rfl, rfl, (Own.lit (n := s.size + 1) _ (Nat.le_refl _) (by rw [Array.size_setIfInBounds, size_madeCells]) (by unfold maxLen; omega)).below ((Below.refl _ _).alloc (Nat.le_refl _) _), ?_, fun j h1 h2 => by omega, ((Below.refl _ _).alloc (Nat.le_refl _) _).alloc (by simp) _⟩
    rw [Array.length_toList, Array.size_setIfInBounds, size_madeCells]
  case round =>
    clear hmk hlen0 hgs hfr hcell2 hcell3 HST HMD
    obtain ⟨m, x, xs, hm, hx, rfl, hown, hxl, htab, hbel⟩ := hrel
    have x1 : x ≤ (m : Int) - 1 := by omega
    have x2 : (m : Int) - 1 ≤ x := by omega
    have HX := Lib.hid hx; clear hx
    have HXL := Lib.hid hxl; clear hxl
    by_cases hlt : 0 ≤ x
    · obtain ⟨m, rfl⟩ : ∃ q, m = q + 1 := ⟨m - 1, by omega⟩
      have hxm : x = (m : Int) := by omega
      subst hxm
      have HO := Lib.hid hown; have HTB := Lib.hid htab; clear hown htab x1 x2 HX
      have hgl : w.heap.size < wr.heap.size := (World.ownsRow.lt HO.out w.heap.size rfl).2
      go_wp2_with fail
      obtain ⟨wo, rfl⟩ : ∃ wo : World, wo = wr := ⟨_, rfl⟩
      go_loopw [9, 10, 11, 12, 13] (fun ln i _ _ _ wr => ∃ k : Nat, ∃ A c, k ≤ 4 ∧ i = .int .i64 k ∧ ln = .slice A k c ∧ Own wr wo.heap.size 3 (.slice A k c) (((crow st ss (L s) m).take k).map (Value.int .i64)) ∧ Below wo.heap.size wo wr) (fun _ i _ _ _ _ => 4 - (intOf i).toNat)
      case atStart => exact ⟨0, _, _, by omega, rfl, rfl, Own.empty (Nat.le_refl _), (Below.refl _ _).alloc (Nat.le_refl _) _⟩
      case round =>
        obtain ⟨k, A1, c1, hk, rfl, rfl, hln, hbl⟩ := hrel
        have hB2 := hbel.size
        have hB3 := hbl.size
        have HLN := Lib.hid hln; clear hln
        by_cases hk4 : k < 4
        · have hl0 : m < s.size := by omega
          obtain ⟨bb, hbb⟩ : ∃ bb, s[m]'hl0 = bb := ⟨_, rfl⟩
          have HB : Hid ((L s).getD m 0 = bb) := by
            show (L s).getD m 0 = bb
            rw [← hbb, List.getD_eq_getElem?_getD, List.getElem?_eq_getElem (by rw [L_len]; omega)]; rfl
          obtain ⟨q, hq⟩ : ∃ q : Int, IntKind.u8.wrap ((bb.toNat : Int) - 97) = q := ⟨_, rfl⟩
          have hqk := u8_letter bb k hk4
          rw [hq] at hqk
          have hqb := u8_bd ((bb.toNat : Int) - 97)
          rw [hq] at hqb
          have q1 := hqb.1
          have q2 := hqb.2
          have HQK := Lib.hid hqk; clear hqk hqb
          by_cases hlast : m + 1 = s.size
          · have hle : ((m : Int) == (s.size : Int) - 1) = true := by simp; omega
            have HL := Lib.hid (by rw [L_len]; exact hlast : m + 1 = (L s).length)
            have hl1 : m + 1 ≤ s.size := by omega
            have hl2 : s.size ≤ m + 1 := by omega
            clear hlast
            have hcv : ∀ cc, cst st bb k = cc → (crow st ss (L s) m)[k]? = some (min 1000 (cc + 0)) := fun cc hc => by
              rw [cell_last _ _ _ _ _ hk4 HL.out, HB.out, hc]
            have HCV := Lib.hid hcv; clear hcv
            obtain ⟨HLN2, _⟩ : ∃ h : Hid (Own wr wo.heap.size 3 (.slice A1 k c1) (((crow st ss (L s) m).take k).map (Value.int .i64))), True := ⟨HLN, trivial⟩
            clear HLN
            have hbl2 := hbl
            by_cases h63 : bb = 63
            · have hd1 : ((bb.toNat : Int) != 63) = false := by rw [h63]; rfl
              have hcc : cst st bb k = 0 := by rw [h63]; rfl
              clear h63
              have hv := HCV.out 0 hcc
              rw [show min (1000 : Int) (0 + 0) = 0 from by decide] at hv
              clear hcc
              have HV := Lib.hid hv; clear hv
              have hln4 : ∀ st, (((crow st ss (L s) m).take k).map (Value.int .i64)).length = k := fun st => by rw [List.length_map, List.length_take, crow_length]; omega
              have HL4 := Lib.hid hln4; clear hln4
              have hk9 : k < 4294967296 := by omega
              go_wp2_with (at_builtin; refine wp_append1 rfl (.tmp 80) (.tmp 85) 63 rfl _ 8 Try.underlying63 info_int rfl rfl HLN2.out _ rfl rfl k (HL4.out _) hk9 (by decide) hbl2.size ?_)
              intro A' c' w3 hown3 hbel3 hsz3
              rw [← List.map_take, take_snoc HV.out] at hown3
              have HO3 := Lib.hid hown3; clear hown3
              go_wp2_with fail
              go_roundw
              case rel => exact ⟨k + 1, A', c', by omega, by go_num, rfl, HO3.out, hbl2.trans hbel3⟩
              case measure => simp [intOf]; omega
            · have hd1 : ((bb.toNat : Int) != 63) = true := by rw [bne_iff_ne]; intro h; apply h63; apply UInt8.toNat_inj.1; show bb.toNat = 63; omega
              by_cases hlt2 : bb = lt k
              · have hd2 : (q != (k : Int)) = false := by rw [bne_eq_false_iff_eq]; exact HQK.out.2 hlt2
                have hcc : cst st bb k = 0 := cst_eq hlt2
                clear h63 hlt2
                have hv := HCV.out 0 hcc
                rw [show min (1000 : Int) (0 + 0) = 0 from by decide] at hv
                clear hcc
                have HV := Lib.hid hv; clear hv
                have hln4 : ∀ st, (((crow st ss (L s) m).take k).map (Value.int .i64)).length = k := fun st => by rw [List.length_map, List.length_take, crow_length]; omega
                have HL4 := Lib.hid hln4; clear hln4
                have hk9 : k < 4294967296 := by omega
                go_wp2_with (at_builtin; refine wp_append1 rfl (.tmp 80) (.tmp 85) 63 rfl _ 8 Try.underlying63 info_int rfl rfl HLN2.out _ rfl rfl k (HL4.out _) hk9 (by decide) hbl2.size ?_)
                intro A' c' w3 hown3 hbel3 hsz3
                rw [← List.map_take, take_snoc HV.out] at hown3
                have HO3 := Lib.hid hown3; clear hown3
                go_wp2_with fail
                go_roundw
                case rel => exact ⟨k + 1, A', c', by omega, by go_num, rfl, HO3.out, hbl2.trans hbel3⟩
                case measure => simp [intOf]; omega
              · have hd2 : (q != (k : Int)) = true := by rw [bne_iff_ne]; intro h; exact hlt2 (HQK.out.1 h)
                have hcc : cst st bb k = if st then 1000 else 1 := by unfold cst dif; simp [h63, hlt2]
                clear h63 hlt2
                cases st
                · rw [if_neg Bool.false_ne_true] at hcc
                  have hv := HCV.out 1 hcc
                  rw [show min (1000 : Int) (1 + 0) = 1 from by decide] at hv
                  clear hcc
                  have HV := Lib.hid hv; clear hv
                  have hln4 : ∀ st, (((crow st ss (L s) m).take k).map (Value.int .i64)).length = k := fun st => by rw [List.length_map, List.length_take, crow_length]; omega
                  have HL4 := Lib.hid hln4; clear hln4
                  have hk9 : k < 4294967296 := by omega
                  go_wp2_with (at_builtin; refine wp_append1 rfl (.tmp 80) (.tmp 85) 63 rfl _ 8 Try.underlying63 info_int rfl rfl HLN2.out _ rfl rfl k (HL4.out _) hk9 (by decide) hbl2.size ?_)
                  intro A' c' w3 hown3 hbel3 hsz3
                  rw [← List.map_take, take_snoc HV.out] at hown3
                  have HO3 := Lib.hid hown3; clear hown3
                  go_wp2_with fail
                  go_roundw
                  case rel => exact ⟨k + 1, A', c', by omega, by go_num, rfl, HO3.out, hbl2.trans hbel3⟩
                  case measure => simp [intOf]; omega
                · rw [if_pos rfl] at hcc
                  have hv := HCV.out 1000 hcc
                  rw [show min (1000 : Int) (1000 + 0) = 1000 from by decide] at hv
                  clear hcc
                  have HV := Lib.hid hv; clear hv
                  have hln4 : ∀ st, (((crow st ss (L s) m).take k).map (Value.int .i64)).length = k := fun st => by rw [List.length_map, List.length_take, crow_length]; omega
                  have HL4 := Lib.hid hln4; clear hln4
                  have hk9 : k < 4294967296 := by omega
                  go_wp2_with (at_builtin; refine wp_append1 rfl (.tmp 80) (.tmp 85) 63 rfl _ 8 Try.underlying63 info_int rfl rfl HLN2.out _ rfl rfl k (HL4.out _) hk9 (by decide) hbl2.size ?_)
                  intro A' c' w3 hown3 hbel3 hsz3
                  rw [← List.map_take, take_snoc HV.out] at hown3
                  have HO3 := Lib.hid hown3; clear hown3
                  go_wp2_with fail
                  go_roundw
                  case rel => exact ⟨k + 1, A', c', by omega, by go_num, rfl, HO3.out, hbl2.trans hbel3⟩
                  case measure => simp [intOf]; omega
          · have hle : ((m : Int) == (s.size : Int) - 1) = false := by simp; omega
            have hl1 : m + 1 < s.size := by omega
            clear hlast
            obtain ⟨r, hr⟩ : ∃ r, crow st ss (L s) (m + 1) = r := ⟨_, rfl⟩
            have hbd : ∀ n, n < 4 → 0 ≤ r.getD n 0 ∧ r.getD n 0 ≤ 1000 := fun n hn => by
              rw [← hr]; exact crow_ge st ss (L s) ((L s).length - (m + 1)) (m + 1) (by rw [L_len]; omega) n hn
            have hcv : ∀ cc, cst st bb k = cc → (crow st ss (L s) m)[k]? = some (min 1000 (cc + bst ss k r 4)) := fun cc hc => by
              rw [cell_next _ _ _ _ _ hk4 (by rw [L_len]; exact hl1), HB.out, hc, hr]
            have HCV := Lib.hid hcv; clear hcv
            have b1 : 0 ≤ bst ss k r 4 := bst_ge ss k r (fun n hn => (hbd n hn).1) 4 (by omega)
            have b2 : bst ss k r 4 ≤ 1000 := bst_le ss k r 4
            obtain ⟨A2, c2, hx2, hf2⟩ := HTB.out (m + 1) (by omega) hl1
            rw [hr] at hf2
            have hlr : r.length = 4 := by rw [← hr]; rfl
            obtain ⟨g', hg', _, _, hcel, _, _⟩ := (HO.out.below hbl).store (k := m + 1) (by rw [HXL.out]; omega)
            injection hg' with hg'
            injection hg' with hg'
            subst hg'
            rw [hx2] at hcel
            have HCE := Lib.hid hcel
            have HF2 := Lib.hid (hf2.below hbl)
            have HLR := Lib.hid hlr
            clear hr hbd hx2 hf2 hlr hcel
            by_cases h63 : bb = 63
            · have hd1 : ((bb.toNat : Int) != 63) = false := by rw [h63]; rfl
              have hcc : cst st bb k = 0 := by rw [h63]; rfl
              clear h63
              go_wp2_with fail
              obtain ⟨w2, rfl⟩ : ∃ w2 : World, w2 = wr := ⟨_, rfl⟩
              go_loopw [12, 13] (fun b i wr => ∃ j : Nat, j ≤ 4 ∧ i = .int .i64 j ∧ b = .int .i64 (bst ss k r j) ∧ Dr w2 wr) (fun _ i _ => 4 - (intOf i).toNat)
              case atStart => exact ⟨0, by omega, rfl, rfl, Dr.refl _⟩
              case round =>
                obtain ⟨j, hj, rfl, rfl, hd⟩ := hrel
                by_cases hj4 : j < 4
                · obtain ⟨u, hu⟩ := some_of_lt (l := r) (k := j) (by rw [HLR.out]; exact hj4)
                  obtain ⟨ab, rfl, hadg, hads, hcell⟩ := HF2.out j _ (map_at (Value.int .i64) hu)
                  have hcell2 := (hd.below (B := ab + 1)).cell (p := ⟨ab, j, none⟩) (Nat.lt_succ_self _)
                  rw [hcell] at hcell2
                  have hcel2 := (hd.below (B := w.heap.size + 1)).cell (p := ⟨w.heap.size, m + 1, none⟩) (Nat.lt_succ_self _)
                  rw [HCE.out] at hcel2
                  have hud : r.getD j 0 = u := by rw [List.getD_eq_getElem?_getD, hu]; rfl
                  obtain ⟨bs, hbs⟩ : ∃ bs, bst ss k r j = bs := ⟨_, rfl⟩
                  rw [hbs]
                  have HBS := Lib.hid hbs; have HU := Lib.hid hud; clear hbs hu hud hcell
                  have HR1 := Lib.hid (HR.out.below (hbel.trans ((hbl.trans hd.below).mono hB2)) hB)
                  have hct := at_abcd ss A c B wr k j hk4 hj4 hn HR1.out
                  obtain ⟨z, hz⟩ : ∃ z, atIx ss (prS k j) = z := ⟨_, rfl⟩
                  rw [hz] at hct
                  have hzb : hasP ss k j = decide (0 ≤ z) := by rw [← hz]; rfl
                  have HZB := Lib.hid hzb
                  have HCT := Lib.hid hct
                  clear hct hz hzb
                  by_cases hz0 : 0 ≤ z
                  · go_wp2_with fail
                    go_quiet ((go_at_call 85; exact quiet_dr (HCT.out _)))
                    go_wp2_with fail
                    go_roundw
                    case rel => exact ⟨j + 1, by omega, by go_num, by rw [bst, HZB.out, if_pos (decide_eq_true hz0), HBS.out, HU.out, imin], hd.trans ((Dr.refl _).drewN nq)⟩
                    case measure => simp [intOf]; omega
                  · have hz1 : decide (0 ≤ z) = false := decide_eq_false hz0
                    go_wp2_with fail
                    go_quiet ((go_at_call 85; exact quiet_dr (HCT.out _)))
                    go_wp2_with fail
                    go_roundw
                    case rel => exact ⟨j + 1, by omega, by go_num, by rw [bst, HZB.out, if_neg (by rw [hz1]; exact Bool.false_ne_true), HBS.out], hd.trans ((Dr.refl _).drewN nq)⟩
                    case measure => simp [intOf]; omega
                · have hj4 : j = 4 := by omega
                  subst hj4
                  have hv0 := HCV.out 0 hcc
                  obtain ⟨bs, hbs⟩ : ∃ bs, bst ss k r 4 = bs := ⟨_, rfl⟩
                  rw [hbs] at hv0 b1 b2 ⊢
                  have HV0 := Lib.hid hv0
                  have HLN2 := Lib.hid (HLN.out.below hd.below)
                  have hbl2 := hbl.trans hd.below
                  clear hcc hbs hv0
                  by_cases hsm : 0 + bs < 1000
                  · have hv := HV0.out
                    rw [show min 1000 (0 + bs) = bs from by omega] at hv
                    have HV := Lib.hid hv; clear hv
                    have hln4 : ∀ st, (((crow st ss (L s) m).take k).map (Value.int .i64)).length = k := fun st => by rw [List.length_map, List.length_take, crow_length]; omega
                    have HL4 := Lib.hid hln4; clear hln4
                    have hk9 : k < 4294967296 := by omega
                    go_wp2_with (at_builtin; refine wp_append1 rfl (.tmp 80) (.tmp 85) 63 rfl _ 8 Try.underlying63 info_int rfl rfl HLN2.out _ rfl rfl k (HL4.out _) hk9 (by decide) hbl2.size ?_)
                    intro A' c' w3 hown3 hbel3 hsz3
                    rw [← List.map_take, take_snoc HV.out] at hown3
                    have HO3 := Lib.hid hown3; clear hown3
                    go_wp2_with fail
                    go_roundw
                    case rel => exact ⟨k + 1, A', c', by omega, by go_num, rfl, HO3.out, hbl2.trans hbel3⟩
                    case measure => simp [intOf]; omega
                  · have hv := HV0.out
                    rw [show min 1000 (0 + bs) = 1000 from by omega] at hv
                    have HV := Lib.hid hv; clear hv
                    have hln4 : ∀ st, (((crow st ss (L s) m).take k).map (Value.int .i64)).length = k := fun st => by rw [List.length_map, List.length_take, crow_length]; omega
                    have HL4 := Lib.hid hln4; clear hln4
                    have hk9 : k < 4294967296 := by omega
                    go_wp2_with (at_builtin; refine wp_append1 rfl (.tmp 80) (.tmp 85) 63 rfl _ 8 Try.underlying63 info_int rfl rfl HLN2.out _ rfl rfl k (HL4.out _) hk9 (by decide) hbl2.size ?_)
                    intro A' c' w3 hown3 hbel3 hsz3
                    rw [← List.map_take, take_snoc HV.out] at hown3
                    have HO3 := Lib.hid hown3; clear hown3
                    go_wp2_with fail
                    go_roundw
                    case rel => exact ⟨k + 1, A', c', by omega, by go_num, rfl, HO3.out, hbl2.trans hbel3⟩
                    case measure => simp [intOf]; omega
            · have hd1 : ((bb.toNat : Int) != 63) = true := by rw [bne_iff_ne]; intro h; apply h63; apply UInt8.toNat_inj.1; show bb.toNat = 63; omega
              by_cases hlt2 : bb = lt k
              · have hd2 : (q != (k : Int)) = false := by rw [bne_eq_false_iff_eq]; exact HQK.out.2 hlt2
                have hcc : cst st bb k = 0 := cst_eq hlt2
                clear h63 hlt2
                go_wp2_with fail
                obtain ⟨w2, rfl⟩ : ∃ w2 : World, w2 = wr := ⟨_, rfl⟩
                go_loopw [12, 13] (fun b i wr => ∃ j : Nat, j ≤ 4 ∧ i = .int .i64 j ∧ b = .int .i64 (bst ss k r j) ∧ Dr w2 wr) (fun _ i _ => 4 - (intOf i).toNat)
                case atStart => exact ⟨0, by omega, rfl, rfl, Dr.refl _⟩
                case round =>
                  obtain ⟨j, hj, rfl, rfl, hd⟩ := hrel
                  by_cases hj4 : j < 4
                  · obtain ⟨u, hu⟩ := some_of_lt (l := r) (k := j) (by rw [HLR.out]; exact hj4)
                    obtain ⟨ab, rfl, hadg, hads, hcell⟩ := HF2.out j _ (map_at (Value.int .i64) hu)
                    have hcell2 := (hd.below (B := ab + 1)).cell (p := ⟨ab, j, none⟩) (Nat.lt_succ_self _)
                    rw [hcell] at hcell2
                    have hcel2 := (hd.below (B := w.heap.size + 1)).cell (p := ⟨w.heap.size, m + 1, none⟩) (Nat.lt_succ_self _)
                    rw [HCE.out] at hcel2
                    have hud : r.getD j 0 = u := by rw [List.getD_eq_getElem?_getD, hu]; rfl
                    obtain ⟨bs, hbs⟩ : ∃ bs, bst ss k r j = bs := ⟨_, rfl⟩
                    rw [hbs]
                    have HBS := Lib.hid hbs; have HU := Lib.hid hud; clear hbs hu hud hcell
                    have HR1 := Lib.hid (HR.out.below (hbel.trans ((hbl.trans hd.below).mono hB2)) hB)
                    have hct := at_abcd ss A c B wr k j hk4 hj4 hn HR1.out
                    obtain ⟨z, hz⟩ : ∃ z, atIx ss (prS k j) = z := ⟨_, rfl⟩
                    rw [hz] at hct
                    have hzb : hasP ss k j = decide (0 ≤ z) := by rw [← hz]; rfl
                    have HZB := Lib.hid hzb
                    have HCT := Lib.hid hct
                    clear hct hz hzb
                    by_cases hz0 : 0 ≤ z
                    · go_wp2_with fail
                      go_quiet ((go_at_call 85; exact quiet_dr (HCT.out _)))
                      go_wp2_with fail
                      go_roundw
                      case rel => exact ⟨j + 1, by omega, by go_num, by rw [bst, HZB.out, if_pos (decide_eq_true hz0), HBS.out, HU.out, imin], hd.trans ((Dr.refl _).drewN nq)⟩
                      case measure => simp [intOf]; omega
                    · have hz1 : decide (0 ≤ z) = false := decide_eq_false hz0
                      go_wp2_with fail
                      go_quiet ((go_at_call 85; exact quiet_dr (HCT.out _)))
                      go_wp2_with fail
                      go_roundw
                      case rel => exact ⟨j + 1, by omega, by go_num, by rw [bst, HZB.out, if_neg (by rw [hz1]; exact Bool.false_ne_true), HBS.out], hd.trans ((Dr.refl _).drewN nq)⟩
                      case measure => simp [intOf]; omega
                  · have hj4 : j = 4 := by omega
                    subst hj4
                    have hv0 := HCV.out 0 hcc
                    obtain ⟨bs, hbs⟩ : ∃ bs, bst ss k r 4 = bs := ⟨_, rfl⟩
                    rw [hbs] at hv0 b1 b2 ⊢
                    have HV0 := Lib.hid hv0
                    have HLN2 := Lib.hid (HLN.out.below hd.below)
                    have hbl2 := hbl.trans hd.below
                    clear hcc hbs hv0
                    by_cases hsm : 0 + bs < 1000
                    · have hv := HV0.out
                      rw [show min 1000 (0 + bs) = bs from by omega] at hv
                      have HV := Lib.hid hv; clear hv
                      have hln4 : ∀ st, (((crow st ss (L s) m).take k).map (Value.int .i64)).length = k := fun st => by rw [List.length_map, List.length_take, crow_length]; omega
                      have HL4 := Lib.hid hln4; clear hln4
                      have hk9 : k < 4294967296 := by omega
                      go_wp2_with (at_builtin; refine wp_append1 rfl (.tmp 80) (.tmp 85) 63 rfl _ 8 Try.underlying63 info_int rfl rfl HLN2.out _ rfl rfl k (HL4.out _) hk9 (by decide) hbl2.size ?_)
                      intro A' c' w3 hown3 hbel3 hsz3
                      rw [← List.map_take, take_snoc HV.out] at hown3
                      have HO3 := Lib.hid hown3; clear hown3
                      go_wp2_with fail
                      go_roundw
                      case rel => exact ⟨k + 1, A', c', by omega, by go_num, rfl, HO3.out, hbl2.trans hbel3⟩
                      case measure => simp [intOf]; omega
                    · have hv := HV0.out
                      rw [show min 1000 (0 + bs) = 1000 from by omega] at hv
                      have HV := Lib.hid hv; clear hv
                      have hln4 : ∀ st, (((crow st ss (L s) m).take k).map (Value.int .i64)).length = k := fun st => by rw [List.length_map, List.length_take, crow_length]; omega
                      have HL4 := Lib.hid hln4; clear hln4
                      have hk9 : k < 4294967296 := by omega
                      go_wp2_with (at_builtin; refine wp_append1 rfl (.tmp 80) (.tmp 85) 63 rfl _ 8 Try.underlying63 info_int rfl rfl HLN2.out _ rfl rfl k (HL4.out _) hk9 (by decide) hbl2.size ?_)
                      intro A' c' w3 hown3 hbel3 hsz3
                      rw [← List.map_take, take_snoc HV.out] at hown3
                      have HO3 := Lib.hid hown3; clear hown3
                      go_wp2_with fail
                      go_roundw
                      case rel => exact ⟨k + 1, A', c', by omega, by go_num, rfl, HO3.out, hbl2.trans hbel3⟩
                      case measure => simp [intOf]; omega
              · have hd2 : (q != (k : Int)) = true := by rw [bne_iff_ne]; intro h; exact hlt2 (HQK.out.1 h)
                have hcc : cst st bb k = if st then 1000 else 1 := by unfold cst dif; simp [h63, hlt2]
                clear h63 hlt2
                cases st
                · rw [if_neg Bool.false_ne_true] at hcc
                  go_wp2_with fail
                  obtain ⟨w2, rfl⟩ : ∃ w2 : World, w2 = wr := ⟨_, rfl⟩
                  go_loopw [12, 13] (fun b i wr => ∃ j : Nat, j ≤ 4 ∧ i = .int .i64 j ∧ b = .int .i64 (bst ss k r j) ∧ Dr w2 wr) (fun _ i _ => 4 - (intOf i).toNat)
                  case atStart => exact ⟨0, by omega, rfl, rfl, Dr.refl _⟩
                  case round =>
                    obtain ⟨j, hj, rfl, rfl, hd⟩ := hrel
                    by_cases hj4 : j < 4
                    · obtain ⟨u, hu⟩ := some_of_lt (l := r) (k := j) (by rw [HLR.out]; exact hj4)
                      obtain ⟨ab, rfl, hadg, hads, hcell⟩ := HF2.out j _ (map_at (Value.int .i64) hu)
                      have hcell2 := (hd.below (B := ab + 1)).cell (p := ⟨ab, j, none⟩) (Nat.lt_succ_self _)
                      rw [hcell] at hcell2
                      have hcel2 := (hd.below (B := w.heap.size + 1)).cell (p := ⟨w.heap.size, m + 1, none⟩) (Nat.lt_succ_self _)
                      rw [HCE.out] at hcel2
                      have hud : r.getD j 0 = u := by rw [List.getD_eq_getElem?_getD, hu]; rfl
                      obtain ⟨bs, hbs⟩ : ∃ bs, bst ss k r j = bs := ⟨_, rfl⟩
                      rw [hbs]
                      have HBS := Lib.hid hbs; have HU := Lib.hid hud; clear hbs hu hud hcell
                      have HR1 := Lib.hid (HR.out.below (hbel.trans ((hbl.trans hd.below).mono hB2)) hB)
                      have hct := at_abcd ss A c B wr k j hk4 hj4 hn HR1.out
                      obtain ⟨z, hz⟩ : ∃ z, atIx ss (prS k j) = z := ⟨_, rfl⟩
                      rw [hz] at hct
                      have hzb : hasP ss k j = decide (0 ≤ z) := by rw [← hz]; rfl
                      have HZB := Lib.hid hzb
                      have HCT := Lib.hid hct
                      clear hct hz hzb
                      by_cases hz0 : 0 ≤ z
                      · go_wp2_with fail
                        go_quiet ((go_at_call 85; exact quiet_dr (HCT.out _)))
                        go_wp2_with fail
                        go_roundw
                        case rel => exact ⟨j + 1, by omega, by go_num, by rw [bst, HZB.out, if_pos (decide_eq_true hz0), HBS.out, HU.out, imin], hd.trans ((Dr.refl _).drewN nq)⟩
                        case measure => simp [intOf]; omega
                      · have hz1 : decide (0 ≤ z) = false := decide_eq_false hz0
                        go_wp2_with fail
                        go_quiet ((go_at_call 85; exact quiet_dr (HCT.out _)))
                        go_wp2_with fail
                        go_roundw
                        case rel => exact ⟨j + 1, by omega, by go_num, by rw [bst, HZB.out, if_neg (by rw [hz1]; exact Bool.false_ne_true), HBS.out], hd.trans ((Dr.refl _).drewN nq)⟩
                        case measure => simp [intOf]; omega
                    · have hj4 : j = 4 := by omega
                      subst hj4
                      have hv0 := HCV.out 1 hcc
                      obtain ⟨bs, hbs⟩ : ∃ bs, bst ss k r 4 = bs := ⟨_, rfl⟩
                      rw [hbs] at hv0 b1 b2 ⊢
                      have HV0 := Lib.hid hv0
                      have HLN2 := Lib.hid (HLN.out.below hd.below)
                      have hbl2 := hbl.trans hd.below
                      clear hcc hbs hv0
                      by_cases hsm : 1 + bs < 1000
                      · have hv := HV0.out
                        rw [show min 1000 (1 + bs) = (1 + bs) from by omega] at hv
                        have HV := Lib.hid hv; clear hv
                        have hln4 : ∀ st, (((crow st ss (L s) m).take k).map (Value.int .i64)).length = k := fun st => by rw [List.length_map, List.length_take, crow_length]; omega
                        have HL4 := Lib.hid hln4; clear hln4
                        have hk9 : k < 4294967296 := by omega
                        go_wp2_with (at_builtin; refine wp_append1 rfl (.tmp 80) (.tmp 85) 63 rfl _ 8 Try.underlying63 info_int rfl rfl HLN2.out _ rfl rfl k (HL4.out _) hk9 (by decide) hbl2.size ?_)
                        intro A' c' w3 hown3 hbel3 hsz3
                        rw [← List.map_take, take_snoc HV.out] at hown3
                        have HO3 := Lib.hid hown3; clear hown3
                        go_wp2_with fail
                        go_roundw
                        case rel => exact ⟨k + 1, A', c', by omega, by go_num, rfl, HO3.out, hbl2.trans hbel3⟩
                        case measure => simp [intOf]; omega
                      · have hv := HV0.out
                        rw [show min 1000 (1 + bs) = 1000 from by omega] at hv
                        have HV := Lib.hid hv; clear hv
                        have hln4 : ∀ st, (((crow st ss (L s) m).take k).map (Value.int .i64)).length = k := fun st => by rw [List.length_map, List.length_take, crow_length]; omega
                        have HL4 := Lib.hid hln4; clear hln4
                        have hk9 : k < 4294967296 := by omega
                        go_wp2_with (at_builtin; refine wp_append1 rfl (.tmp 80) (.tmp 85) 63 rfl _ 8 Try.underlying63 info_int rfl rfl HLN2.out _ rfl rfl k (HL4.out _) hk9 (by decide) hbl2.size ?_)
                        intro A' c' w3 hown3 hbel3 hsz3
                        rw [← List.map_take, take_snoc HV.out] at hown3
                        have HO3 := Lib.hid hown3; clear hown3
                        go_wp2_with fail
                        go_roundw
                        case rel => exact ⟨k + 1, A', c', by omega, by go_num, rfl, HO3.out, hbl2.trans hbel3⟩
                        case measure => simp [intOf]; omega
                · rw [if_pos rfl] at hcc
                  go_wp2_with fail
                  obtain ⟨w2, rfl⟩ : ∃ w2 : World, w2 = wr := ⟨_, rfl⟩
                  go_loopw [12, 13] (fun b i wr => ∃ j : Nat, j ≤ 4 ∧ i = .int .i64 j ∧ b = .int .i64 (bst ss k r j) ∧ Dr w2 wr) (fun _ i _ => 4 - (intOf i).toNat)
                  case atStart => exact ⟨0, by omega, rfl, rfl, Dr.refl _⟩
                  case round =>
                    obtain ⟨j, hj, rfl, rfl, hd⟩ := hrel
                    by_cases hj4 : j < 4
                    · obtain ⟨u, hu⟩ := some_of_lt (l := r) (k := j) (by rw [HLR.out]; exact hj4)
                      obtain ⟨ab, rfl, hadg, hads, hcell⟩ := HF2.out j _ (map_at (Value.int .i64) hu)
                      have hcell2 := (hd.below (B := ab + 1)).cell (p := ⟨ab, j, none⟩) (Nat.lt_succ_self _)
                      rw [hcell] at hcell2
                      have hcel2 := (hd.below (B := w.heap.size + 1)).cell (p := ⟨w.heap.size, m + 1, none⟩) (Nat.lt_succ_self _)
                      rw [HCE.out] at hcel2
                      have hud : r.getD j 0 = u := by rw [List.getD_eq_getElem?_getD, hu]; rfl
                      obtain ⟨bs, hbs⟩ : ∃ bs, bst ss k r j = bs := ⟨_, rfl⟩
                      rw [hbs]
                      have HBS := Lib.hid hbs; have HU := Lib.hid hud; clear hbs hu hud hcell
                      have HR1 := Lib.hid (HR.out.below (hbel.trans ((hbl.trans hd.below).mono hB2)) hB)
                      have hct := at_abcd ss A c B wr k j hk4 hj4 hn HR1.out
                      obtain ⟨z, hz⟩ : ∃ z, atIx ss (prS k j) = z := ⟨_, rfl⟩
                      rw [hz] at hct
                      have hzb : hasP ss k j = decide (0 ≤ z) := by rw [← hz]; rfl
                      have HZB := Lib.hid hzb
                      have HCT := Lib.hid hct
                      clear hct hz hzb
                      by_cases hz0 : 0 ≤ z
                      · go_wp2_with fail
                        go_quiet ((go_at_call 85; exact quiet_dr (HCT.out _)))
                        go_wp2_with fail
                        go_roundw
                        case rel => exact ⟨j + 1, by omega, by go_num, by rw [bst, HZB.out, if_pos (decide_eq_true hz0), HBS.out, HU.out, imin], hd.trans ((Dr.refl _).drewN nq)⟩
                        case measure => simp [intOf]; omega
                      · have hz1 : decide (0 ≤ z) = false := decide_eq_false hz0
                        go_wp2_with fail
                        go_quiet ((go_at_call 85; exact quiet_dr (HCT.out _)))
                        go_wp2_with fail
                        go_roundw
                        case rel => exact ⟨j + 1, by omega, by go_num, by rw [bst, HZB.out, if_neg (by rw [hz1]; exact Bool.false_ne_true), HBS.out], hd.trans ((Dr.refl _).drewN nq)⟩
                        case measure => simp [intOf]; omega
                    · have hj4 : j = 4 := by omega
                      subst hj4
                      have hv0 := HCV.out 1000 hcc
                      obtain ⟨bs, hbs⟩ : ∃ bs, bst ss k r 4 = bs := ⟨_, rfl⟩
                      rw [hbs] at hv0 b1 b2 ⊢
                      have HV0 := Lib.hid hv0
                      have HLN2 := Lib.hid (HLN.out.below hd.below)
                      have hbl2 := hbl.trans hd.below
                      clear hcc hbs hv0
                      by_cases hsm : 1000 + bs < 1000
                      · have hv := HV0.out
                        rw [show min 1000 (1000 + bs) = (1000 + bs) from by omega] at hv
                        exfalso
                        omega
                      · have hv := HV0.out
                        rw [show min 1000 (1000 + bs) = 1000 from by omega] at hv
                        have HV := Lib.hid hv; clear hv
                        have hln4 : ∀ st, (((crow st ss (L s) m).take k).map (Value.int .i64)).length = k := fun st => by rw [List.length_map, List.length_take, crow_length]; omega
                        have HL4 := Lib.hid hln4; clear hln4
                        have hk9 : k < 4294967296 := by omega
                        go_wp2_with (at_builtin; refine wp_append1 rfl (.tmp 80) (.tmp 85) 63 rfl _ 8 Try.underlying63 info_int rfl rfl HLN2.out _ rfl rfl k (HL4.out _) hk9 (by decide) hbl2.size ?_)
                        intro A' c' w3 hown3 hbel3 hsz3
                        rw [← List.map_take, take_snoc HV.out] at hown3
                        have HO3 := Lib.hid hown3; clear hown3
                        go_wp2_with fail
                        go_roundw
                        case rel => exact ⟨k + 1, A', c', by omega, by go_num, rfl, HO3.out, hbl2.trans hbel3⟩
                        case measure => simp [intOf]; omega
        · have hk : k = 4 := by omega
          subst hk
          have hfull : (crow st ss (L s) m).take 4 = crow st ss (L s) m := List.take_of_length_le (by rw [crow_length]; omega)
          have hln := HLN.out
          rw [hfull] at hln
          have HFAR := Lib.hid (hln.far hgl)
          have hown2 := HO.out.below hbl
          have htab2 := HTB.out.below hbl
          obtain ⟨g', hg', hBg, hgs, hcell, hfr, hst⟩ := hown2.store (k := m) (by rw [HXL.out]; omega)
          injection hg' with hg'
          injection hg' with hg'
          subst hg'
          obtain ⟨old, hold⟩ := some_of_lt (l := xs) (k := m) (by rw [HXL.out]; omega)
          rw [hold] at hcell
          have hs1 := hst (.slice A1 4 c1)
          have HS1 := Lib.hid hs1
          have HT2 := Lib.hid (htab2.store (c := c1) (by rw [HXL.out]; omega) HFAR.out hs1.2.2)
          clear hst hs1 hown2 htab2 hln hfull hold
          go_wp2_with fail
          go_roundw
          case rel => exact ⟨m, (m : Int) - 1, _, by omega, rfl, rfl, HS1.out.1, by rw [List.length_set]; exact HXL.out, HT2.out, (hbel.trans (hbl.mono hB2)).trans HS1.out.2.1⟩
          case measure => simp [intOf]
    · have hm0 : m = 0 := by omega
      subst hm0
      have HO := Lib.hid hown; have HTB := Lib.hid htab; clear hown htab
      go_wp2_with fail
      go_ret
      exact ⟨w.heap.size, rfl, xs, HO.out, HXL.out, HTB.out, hbel⟩
end Go.Proofs.Ytfgifbkkclkhiaa
