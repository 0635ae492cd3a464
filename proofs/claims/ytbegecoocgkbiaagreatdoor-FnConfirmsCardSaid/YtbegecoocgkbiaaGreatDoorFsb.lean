/- The text of a substitution: FormatSubst, both. Asks the shelf's text (strings.Join). No condition but the bounds. -/
import Derived.Test.YtbegecoocgkbiaaGreatDoorBok
import Derived.Test.YtbegecoocgkbiaaGreatDoorJon
namespace Go.Proofs.YtbegecoocgkbiaaGreatDoor
open Go.RowKit
set_option linter.unusedVariables false

theorem jnS_length (c : UInt8) : ∀ (l : List ByteArray) (m : Nat), (∀ x ∈ l, x.size ≤ m) → (jnS c l).length ≤ l.length * (m + 1)
  | [], m, _ => by simp [jnS, Lib.join_nil]
  | x :: l, m, h => by
    have hx := h x List.mem_cons_self
    have h1 : ∀ r : List ByteArray, (∀ y ∈ r, y.size ≤ m) → (Lib.joinTail [c] (r.map L)).length ≤ r.length * (m + 1) := by
      intro r
      induction r with
      | nil => intro _; simp [Lib.joinTail]
      | cons y r ih =>
        intro hr
        have h2 := ih fun z hz => hr z (List.mem_cons_of_mem _ hz)
        have h3 := hr y List.mem_cons_self
        rw [List.map_cons, Lib.joinTail, List.map_cons, List.flatten_cons, ← Lib.joinTail, List.length_append, List.length_append, L_len, List.length_cons, List.length_cons, Nat.succ_mul]
        simp only [List.length_nil]
        omega
    have h2 := h1 l fun y hy => h y (List.mem_cons_of_mem _ hy)
    rw [jnS, List.map_cons, Lib.join_cons, List.length_append, L_len, List.length_cons, Nat.succ_mul]
    omega
theorem su_img {zs : List ByteArray} (h : suOk zs = true) : zs.length ≤ 4 ∧ ∀ x ∈ zs, x.size ≤ 8 := by
  rw [suOk, Bool.and_eq_true, List.all_eq_true, decide_eq_true_eq] at h
  refine ⟨h.2.2, fun x hx => ?_⟩
  have := h.1 x hx
  rw [imgOk, Bool.and_eq_true, decide_eq_true_eq] at this
  exact this.1.2
/-- The text of a substitution. -/
def fsV (zs : List ByteArray) : ByteArray := if suOk zs then strOf (jnS 44 zs) else { data := #[] }
set_option maxHeartbeats 1000000 in
theorem sFormatSubst_any (zs : List ByteArray) (A : Option Addr) (n c B : Nat) (w : World) (hl : zs.length = n) (hB : B ≤ w.heap.size) (hn : n ≤ 4294967296) (hsz : ∀ s ∈ zs, s.size ≤ maxLen) (hrd : Rds w B A (zs.map Value.string)) :
    Calls Tryz.prog 198 #[.agg #[.slice A n c]] w fun e w' => e = .returned (.string (fsV zs)) ∧ Below w.heap.size w w' := by
  subst hl
  have bA : Below w.heap.size w (w.alloc (.cells #[.slice A zs.length c] 25)) := (Below.refl _ _).alloc (Nat.le_refl _) _
  have hso := sSubstOk_any zs A c B _ (Nat.le_trans hB bA.size) hn hsz (hrd.below bA hB)
  have h0 := heap_alloc_new w (.cells #[.slice A zs.length c] 25)
  have hz : w.heap.size < (w.alloc (.cells #[.slice A zs.length c] 25)).heap.size := by simp
  have H0 := Lib.hid h0; have BA := Lib.hid bA; have HZ := Lib.hid hz
  clear h0 bA hz
  cases hok : suOk zs
  · rw [hok] at hso
    have HV : Hid (fsV zs = { data := #[] }) := Lib.hid (by rw [fsV, hok]; rfl)
    have HSO := Lib.hid hso
    clear hso hok hrd hsz
    go_enter Tryz.func198, Tryz.ntmps198
    go_wp2_with (go_at_call 197; refine HSO.out.mono ?_; rintro e w2 ⟨rfl, b2⟩)
    go_ret
    exact ⟨by rw [HV.out]; rfl, BA.out.trans (b2.mono (by have := HZ.out; omega))⟩
  · rw [hok] at hso
    have HV : Hid (fsV zs = strOf (jnS 44 zs)) := Lib.hid (by rw [fsV, if_pos hok])
    obtain ⟨h4, h8⟩ := su_img hok
    have hj := fun w' r => sJoinS_any 44 zs A c B w' (by omega) (fun x hx => by have := h8 x hx; omega) r
    have HSO := Lib.hid hso; have HJ := Lib.hid hj; have HRD := Lib.hid hrd
    clear hso hok hrd hsz hj
    go_enter Tryz.func198, Tryz.ntmps198
    go_wp2_with (first
      | (go_at_call 197; refine HSO.out.mono ?_; rintro e w2 ⟨rfl, b2⟩; have k2 := (b2.cell (p := ⟨w.heap.size, 0, none⟩) HZ.out).trans (cell_of_row _ _ 0 _ _ (0, 0) H0.out))
      | (go_at_call 222; refine (HJ.out _ (HRD.out.below (BA.out.trans (b2.mono (by have := HZ.out; omega))) hB)).mono ?_; rintro e w3 ⟨rfl, rfl⟩))
    go_ret
    exact ⟨by rw [HV.out]; rfl, BA.out.trans (b2.mono (by have := HZ.out; omega))⟩
theorem iJoinR_any (sp : UInt8) (l : List ByteArray) (g n c B : Nat) (w : World) (hn : l.length = n) (h1 : 1 ≤ n) (hl : l.length ≤ 1000) (hz : ∀ x ∈ l, x.size ≤ 400) (hc : n ≤ c) (hrd : Rds w B (some ⟨g, 0, none⟩) (l.map Value.string)) (hB : B ≤ w.heap.size) :
    Calls Tryz.prog 95 #[.slice (some ⟨g, 0, none⟩) n c, .string { data := #[sp] }] w fun e w' => e = .returned (.string (strOf (jnS sp l))) ∧ Below w.heap.size w w' := by
  subst hn
  have hjl := js_len sp l hz
  have hcell : ∀ (j : Nat) (x : ByteArray), l[j]? = some x → w.cell? ⟨g, 0 + j, none⟩ = some (.string x) := fun j x hx => by
    obtain ⟨ad, e, hb, hc⟩ := hrd j _ (map_at Value.string hx)
    injection e with e
    subst e
    rw [show (⟨g, 0, none⟩ : Addr).add j = ⟨g, 0 + j, none⟩ from by unfold Addr.add; split <;> simp_all] at hc
    exact hc
  have hgs : g < w.heap.size := by
    obtain ⟨x, hx⟩ := some_of_lt (l := l) (k := 0) (by omega)
    obtain ⟨ad, e, hb, _⟩ := hrd 0 _ (map_at Value.string hx)
    injection e with e
    subst e
    exact Nat.lt_of_lt_of_le hb hB
  refine Tryz.strings_Join g 0 c l { data := #[sp] } w hcell hgs (by omega) hc (by
    show (jnS sp l).length ≤ _
    omega)
set_option maxHeartbeats 1000000 in
theorem iFormatSubst_yes (zs : List ByteArray) (g n c B : Nat) (w : World) (hl : zs.length = n) (hc : n ≤ c) (hB : B ≤ w.heap.size) (hsu : suOk zs = true) (hrd : Rds w B (some ⟨g, 0, none⟩) (zs.map Value.string)) :
    Calls Tryz.prog 47 #[.agg #[.slice (some ⟨g, 0, none⟩) n c]] w fun e w' => e = .returned (.string (fsV zs)) ∧ Below w.heap.size w w' := by
  subst hl
  obtain ⟨h4, h8⟩ := su_img hsu
  have h1 : 1 ≤ zs.length := by
    rw [suOk, Bool.and_eq_true, decide_eq_true_eq] at hsu; exact hsu.2.1
  have bA : Below w.heap.size w (w.alloc (.cells #[.slice (some ⟨g, 0, none⟩) zs.length c] 25)) := (Below.refl _ _).alloc (Nat.le_refl _) _
  have hso := iSubstOk_any zs (some ⟨g, 0, none⟩) c B _ (Nat.le_trans hB bA.size) (by omega) (fun x hx => by have := h8 x hx; unfold maxLen; omega) (hrd.below bA hB)
  rw [hsu] at hso
  have h0 := heap_alloc_new w (.cells #[.slice (some ⟨g, 0, none⟩) zs.length c] 25)
  have hz : w.heap.size < (w.alloc (.cells #[.slice (some ⟨g, 0, none⟩) zs.length c] 25)).heap.size := by simp
  have hv : fsV zs = strOf (jnS 44 zs) := by rw [fsV, if_pos hsu]
  have hj := fun v r hb => iJoinR_any 44 zs g zs.length c B v rfl h1 (by omega) (fun x hx => by have := h8 x hx; omega) hc r hb
  have H0 := Lib.hid h0; have BA := Lib.hid bA; have HZ := Lib.hid hz; have HSO := Lib.hid hso; have HJ := Lib.hid hj; have HRD := Lib.hid hrd; have HV := Lib.hid hv
  clear h0 bA hz hso hrd hj hsu h8 hv
  go_enter Tryz.func47, Tryz.ntmps47
  go_wp2_with fail
  refine HSO.out.mono ?_
  rintro e w2 ⟨rfl, b2⟩
  have k2 := (b2.cell (p := ⟨w.heap.size, 0, none⟩) HZ.out).trans (cell_of_row _ _ 0 _ _ (0, 0) H0.out)
  have bw2 : Below w.heap.size w w2 := BA.out.trans (b2.mono (by have := HZ.out; omega))
  go_wp2_with fail
  refine (HJ.out w2 (HRD.out.below bw2 hB) (Nat.le_trans hB bw2.size)).mono ?_
  rintro e w3 ⟨rfl, b3⟩
  go_wp2_with fail
  go_ret
  exact ⟨by rw [HV.out]; rfl, bw2.trans (b3.mono bw2.size)⟩
end Go.Proofs.YtbegecoocgkbiaaGreatDoor
