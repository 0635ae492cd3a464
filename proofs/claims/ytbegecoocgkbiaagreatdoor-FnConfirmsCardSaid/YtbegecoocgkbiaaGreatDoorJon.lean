/- Join with one byte between the words, both; a hyphen for the empty string. Asks the shelf's text. No condition but the bounds. -/
import Derived.Test.YtbegecoocgkbiaaGreatDoorM1
import Derived.Test.YtbegecoocgkbiaaGreatDoorShelf
import Derived.Lib.Join
namespace Go.Proofs.YtbegecoocgkbiaaGreatDoor
open Go.RowKit
set_option linter.unusedVariables false

theorem strOf_appJ (a b : List UInt8) : strOf a ++ strOf b = strOf (a ++ b) := by
  apply bytes_ext
  simp [strOf, ByteArray.data_append]
/-- The words of a list with a byte between them. -/
def jnS (sp : UInt8) (l : List ByteArray) : List UInt8 := Lib.join (l.map L) [sp]
theorem js_snoc (sp : UInt8) (l : List ByteArray) (x : ByteArray) : jnS sp (l ++ [x]) = if l = [] then L x else jnS sp l ++ [sp] ++ L x := by
  induction l with
  | nil => simp [jnS, Lib.join, List.intercalate]
  | cons y l ih =>
    rw [if_neg (by simp)]
    cases l with
    | nil => simp [jnS, Lib.join, List.intercalate]
    | cons z l =>
      rw [if_neg (by simp)] at ih
      have h1 : ∀ m : List ByteArray, m ≠ [] → jnS sp (y :: m) = L y ++ [sp] ++ jnS sp m := fun m hm => by
        cases m with
        | nil => exact absurd rfl hm
        | cons a b => simp [jnS, Lib.join, List.intercalate]
      rw [List.cons_append, h1 _ (by simp), ih, h1 _ (by simp)]
      simp
theorem js_take (sp : UInt8) (l : List ByteArray) (h : ∀ x ∈ l, x.size ≤ 400) : ∀ k, k ≤ l.length → (jnS sp (l.take k)).length ≤ 401 * k
  | 0, _ => by simp [jnS, Lib.join, List.intercalate]
  | k + 1, hk => by
    have h1 := js_take sp l h k (by omega)
    obtain ⟨x, hx⟩ := some_of_lt (l := l) (k := k) (by omega)
    have h2 := h x (List.mem_of_getElem? hx)
    have he : jnS sp (l.take (k + 1)) = if l.take k = [] then L x else jnS sp (l.take k) ++ [sp] ++ L x := by rw [List.take_add_one, hx]; exact js_snoc _ _ _
    rw [he]
    split
    · rw [L_len]; omega
    · simp only [List.length_append, List.length_singleton, L_len]; omega
theorem js_len (sp : UInt8) (l : List ByteArray) (h : ∀ x ∈ l, x.size ≤ 400) : (jnS sp l).length ≤ 401 * l.length := by
  have := js_take sp l h l.length (Nat.le_refl _)
  rwa [List.take_length] at this
def orD (s : ByteArray) : ByteArray := if s.size = 0 then { data := #[45] } else s
theorem orDashD_any (s : ByteArray) (w : World) : Calls Tryz.prog 94 #[.string s] w fun e w' => e = .returned (.string (orD s)) ∧ w = w' := by
  by_cases h : s.size = 0
  · have hemp : s.toList.isEmpty = true := by rw [ByteArray.toList_eq]; have : s.data.toList = [] := List.eq_nil_of_length_eq_zero (by rw [L_len]; exact h); rw [this]; rfl
    have H := Lib.hid h; clear h
    go_enter Tryz.func94, Tryz.ntmps94
    go_wp2_with fail
    go_ret
    exact ⟨by rw [orD, if_pos H.out]; rfl, rfl⟩
  · have hemp : s.toList.isEmpty = false := by
      rw [ByteArray.toList_eq]
      cases hq : s.data.toList with
      | nil => exact absurd (by rw [← L_len]; show s.data.toList.length = 0; rw [hq]; rfl) h
      | cons a b => rfl
    have H := Lib.hid h; clear h
    go_enter Tryz.func94, Tryz.ntmps94
    go_wp2_with fail
    go_ret
    exact ⟨by rw [orD, if_neg H.out]; rfl, rfl⟩
set_option maxRecDepth 4000 in
set_option maxHeartbeats 400000 in
theorem sJoinS_any (sp : UInt8) (l : List ByteArray) (A : Option Addr) (c B : Nat) (w : World) (hl : l.length ≤ 1000) (hz : ∀ x ∈ l, x.size ≤ 400) (hrd : Rds w B A (l.map Value.string)) :
    Calls Tryz.prog 222 #[.slice A l.length c, .string { data := #[sp] }] w fun e w' => e = .returned (.string (strOf (jnS sp l))) ∧ w = w' := by
  have HR := Lib.hid hrd; have HZ := Lib.hid hz
  clear hrd hz
  go_enter Tryz.func222, Tryz.ntmps222
  go_wp2_with fail
  go_loop [5, 6, 7, 10] (fun v _ _ i => ∃ k : Nat, k ≤ l.length ∧ i = .int .i64 k ∧ ∃ acc : ByteArray, v = .string acc ∧ acc = strOf (jnS sp (l.take k))) (fun _ _ _ i => l.length - (intOf i).toNat)
  case atStart => exact ⟨0, by omega, rfl, _, rfl, rfl⟩
  case round =>
    obtain ⟨k, hk, rfl, acc, rfl, hacc⟩ := hrel
    have HACC := Lib.hid hacc
    by_cases hlt : k < l.length
    · obtain ⟨x, hx⟩ := some_of_lt (l := l) (k := k) hlt
      obtain ⟨ad, rfl, hc⟩ := HR.out.at_ (map_at Value.string hx)
      have hxs := HZ.out x (List.mem_of_getElem? hx)
      have hjn : jnS sp (l.take (k + 1)) = if l.take k = [] then L x else jnS sp (l.take k) ++ [sp] ++ L x := by rw [List.take_add_one, hx]; exact js_snoc _ _ _
      have hjl := js_take sp l HZ.out k hk
      obtain ⟨sz, hsz⟩ : ∃ sz, (jnS sp (l.take k)).length = sz := ⟨_, rfl⟩
      have hs1 : acc.size = sz := by rw [hacc, strOf_size, hsz]
      have hsb : sz ≤ 401000 := by rw [← hsz]; omega
      have hxL : strOf (L x) = x := bytes_ext (by rw [show (strOf (L x)).data.toList = L (strOf (L x)) from rfl, strOf_L])
      clear hx hjl hsz hacc
      by_cases hk0 : k = 0
      · subst hk0
        have hfin : strOf (jnS sp (l.take (0 + 1))) = acc ++ x := by
          rw [HACC.out, hjn, if_pos (by simp), hxL]
          show x = strOf [] ++ x
          apply bytes_ext; simp [strOf, ByteArray.data_append]
        have HF := Lib.hid hfin
        have hc0 : w.cell? ad = some (.string x) := by simpa [Addr.add] using hc
        clear hjn hfin hxL
        go_wp2_with fail
        go_round
        case rel => exact ⟨0 + 1, by omega, by go_num, _, rfl, HF.out.symm⟩
        case measure => simp [intOf]; omega
      · have hne : ¬ l.take k = [] := by intro h; have := congrArg List.length h; rw [List.length_take, List.length_nil] at this; omega
        have hfin : strOf (jnS sp (l.take (k + 1))) = acc ++ { data := #[sp] } ++ x := by
          rw [HACC.out, hjn, if_neg hne]
          conv => rhs; rw [← hxL]
          show _ = strOf (jnS sp (l.take k)) ++ strOf [sp] ++ strOf (L x)
          rw [strOf_appJ, strOf_appJ]
        have hs2 : (acc ++ ({ data := #[sp] } : ByteArray)).size = sz + 1 := by
          rw [ByteArray.size_append, hs1]; rfl
        have hkp : decide (0 < (k : Int)) = true := by simp; omega
        have HF := Lib.hid hfin
        clear hjn hfin hxL hne
        go_wp2_with fail
        go_round
        case rel => exact ⟨k + 1, by omega, by go_num, _, rfl, HF.out.symm⟩
        case measure => simp [intOf]; omega
    · have hkl : l.take k = l := List.take_of_length_le (by omega)
      have HFI := Lib.hid (by rw [hacc, hkl] : acc = strOf (jnS sp l)); clear hkl hacc
      go_wp2_with fail
      go_ret
      exact ⟨by rw [← HFI.out]; rfl, rfl⟩
theorem iJoinS_any (sp : UInt8) (l : List ByteArray) (A : Option Addr) (n c B : Nat) (w : World) (hn : l.length = n) (hl : l.length ≤ 1000) (hz : ∀ x ∈ l, x.size ≤ 400) (ho : Own w B 9 (.slice A n c) (l.map Value.string)) :
    Calls Tryz.prog 95 #[.slice A n c, .string { data := #[sp] }] w fun e w' => e = .returned (.string (strOf (jnS sp l))) ∧ Below w.heap.size w w' := by
  subst hn
  by_cases h0 : l.length = 0
  · have hnil : l = [] := List.eq_nil_of_length_eq_zero h0
    subst hnil
    refine (Tryz.strings_Join_none A c { data := #[sp] } w).mono ?_
    rintro e w' ⟨rfl, h⟩
    refine ⟨by simp [jnS, Lib.join, List.intercalate]; rfl, ?_⟩
    first | (subst h; exact Below.refl _ _) | (obtain ⟨q, rfl⟩ := h; exact below_drewN (Below.refl _ _) _) | exact h
  · obtain ⟨g, rfl, _, hgs, _, _, _⟩ := ho.store (k := 0) (by rw [List.length_map]; omega)
    obtain ⟨A', c', hv, hc1, _, _⟩ := ho.shape
    injection hv with e1 e2 e3
    subst e3
    rw [List.length_map] at hc1
    have hjl := js_len sp l hz
    refine Tryz.strings_Join g 0 c l { data := #[sp] } w (fun j x hx => ?_) hgs (by omega) hc1 (by
      show (jnS sp l).length ≤ _
      omega)
    rw [Nat.zero_add]
    have h := World.ownsRow.cellAt (g := g) (n := (l.map Value.string).length) (by
      have := ho
      unfold Own at this
      rw [List.length_map] at this ⊢
      exact this) j (by rw [List.length_map]; have := (List.getElem?_eq_some_iff.1 hx).1; omega)
    rw [h]; exact map_at Value.string hx
end Go.Proofs.YtbegecoocgkbiaaGreatDoor
