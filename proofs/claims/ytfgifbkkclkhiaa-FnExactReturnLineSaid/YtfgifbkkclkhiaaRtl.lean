/- DerivedWord, Join, ReturnLine, both. No condition but the bounds. -/
import Derived.Test.YtfgifbkkclkhiaaRtd
import Derived.Test.YtfgifbkkclkhiaaShelf
namespace Go.Proofs.Ytfgifbkkclkhiaa
open Go.RowKit
set_option linter.unusedVariables false

/-- The letters of the derived word. -/
def drL (s f : ByteArray) : List UInt8 := (retA s f).map fun x => ltr (atIx (fsL (retA s f)) x).toNat
def drB (s f : ByteArray) : Bool := decide (0 < (plsV s f).length) && decide ((fsL (retA s f)).length ≤ 4)
def drS (s f : ByteArray) : ByteArray := if drB s f = true then strOf (drL s f) else ⟨#[]⟩
theorem drL_len (s f : ByteArray) : (drL s f).length = (retA s f).length := by simp [drL]
theorem drL_take {s f x : ByteArray} {k : Nat} (h : (retA s f)[k]? = some x) : (drL s f).take (k + 1) = (drL s f).take k ++ [ltr (atIx (fsL (retA s f)) x).toNat] := by
  rw [List.take_add_one]
  unfold drL
  rw [List.getElem?_map, h]; rfl
theorem drS_no {s f : ByteArray} (h : drB s f = false) : drS s f = ⟨#[]⟩ := by rw [drS, h]; rfl
theorem drS_yes {s f : ByteArray} (h : drB s f = true) : drS s f = strOf (drL s f) := by rw [drS, h]; rfl
/-- The words of a list with points between them. -/
def jnL (l : List ByteArray) : List UInt8 := Lib.join (l.map L) [46]
theorem jn_snoc (l : List ByteArray) (x : ByteArray) : jnL (l ++ [x]) = if l = [] then L x else jnL l ++ [46] ++ L x := by
  induction l with
  | nil => simp [jnL, Lib.join, List.intercalate]
  | cons y l ih =>
    rw [if_neg (by simp)]
    cases l with
    | nil => simp [jnL, Lib.join, List.intercalate]
    | cons z l =>
      rw [if_neg (by simp)] at ih
      have h1 : ∀ m : List ByteArray, m ≠ [] → jnL (y :: m) = L y ++ [46] ++ jnL m := fun m hm => by
        cases m with
        | nil => exact absurd rfl hm
        | cons a b => simp [jnL, Lib.join, List.intercalate, List.intersperse]
      rw [List.cons_append, h1 _ (by simp), ih, h1 _ (by simp)]
      simp
theorem jn_take (l : List ByteArray) (h : ∀ x ∈ l, x.size ≤ 400) : ∀ k, k ≤ l.length → (jnL (l.take k)).length ≤ 401 * k
  | 0, _ => by simp [jnL, Lib.join, List.intercalate]
  | k + 1, hk => by
    have h1 := jn_take l h k (by omega)
    obtain ⟨x, hx⟩ := some_of_lt (l := l) (k := k) (by omega)
    have h2 := h x (List.mem_of_getElem? hx)
    have he : jnL (l.take (k + 1)) = if l.take k = [] then L x else jnL (l.take k) ++ [46] ++ L x := by rw [List.take_add_one, hx]; exact jn_snoc _ _
    rw [he]
    split
    · rw [L_len]; omega
    · simp only [List.length_append, List.length_singleton, L_len]; omega
theorem jn_len (l : List ByteArray) (h : ∀ x ∈ l, x.size ≤ 400) : (jnL l).length ≤ 401 * l.length := by
  have := jn_take l h l.length (Nat.le_refl _)
  rwa [List.take_length] at this
def orS (s : ByteArray) : ByteArray := if s.size = 0 then { data := #[45] } else s
/-- What ReturnLine returns. -/
def rlS (s f : ByteArray) : ByteArray := if drB s f = true ∧ (fsL (retA s f)).length ≠ 0 then strOf (jnL (fsL (retA s f))) ++ { data := #[32] } ++ orS (drS s f) else { data := #[110, 111, 110, 101] }
theorem l29Or_any (s : ByteArray) (w : World) : Calls Try.prog 50 #[.string s] w fun e w' => e = .returned (.string (orS s)) ∧ w = w' := by
  by_cases h : s.size = 0
  · have hemp : s.toList.isEmpty = true := by rw [ByteArray.toList_eq]; have : s.data.toList = [] := List.eq_nil_of_length_eq_zero (by rw [L_len]; exact h); rw [this]; rfl
    have H := Lib.hid h; clear h
    go_enter Try.func50, Try.ntmps50
    go_wp2_with fail
    go_ret
    exact ⟨by rw [orS, if_pos H.out]; rfl, rfl⟩
  · have hemp : s.toList.isEmpty = false := by
      rw [ByteArray.toList_eq]
      cases hq : s.data.toList with
      | nil => exact absurd (by rw [← L_len]; show s.data.toList.length = 0; rw [hq]; rfl) h
      | cons a b => rfl
    have H := Lib.hid h; clear h
    go_enter Try.func50, Try.ntmps50
    go_wp2_with fail
    go_ret
    exact ⟨by rw [orS, if_neg H.out]; rfl, rfl⟩
theorem orDash_any (s : ByteArray) (w : World) : Calls Try.prog 53 #[.string s] w fun e w' => e = .returned (.string (orS s)) ∧ w = w' := by
  by_cases h : s.size = 0
  · have hemp : s.toList.isEmpty = true := by rw [ByteArray.toList_eq]; have : s.data.toList = [] := List.eq_nil_of_length_eq_zero (by rw [L_len]; exact h); rw [this]; rfl
    have H := Lib.hid h; clear h
    go_enter Try.func53, Try.ntmps53
    go_wp2_with fail
    go_ret
    exact ⟨by rw [orS, if_pos H.out]; rfl, rfl⟩
  · have hemp : s.toList.isEmpty = false := by
      rw [ByteArray.toList_eq]
      cases hq : s.data.toList with
      | nil => exact absurd (by rw [← L_len]; show s.data.toList.length = 0; rw [hq]; rfl) h
      | cons a b => rfl
    have H := Lib.hid h; clear h
    go_enter Try.func53, Try.ntmps53
    go_wp2_with fail
    go_ret
    exact ⟨by rw [orS, if_neg H.out]; rfl, rfl⟩
set_option maxRecDepth 4000 in
set_option maxHeartbeats 400000 in
theorem sJoin_any (l : List ByteArray) (A : Option Addr) (c B : Nat) (w : World) (hl : l.length ≤ 1000) (hz : ∀ x ∈ l, x.size ≤ 400) (hrd : Rds w B A (l.map Value.string)) :
    Calls Try.prog 51 #[.slice A l.length c, .string { data := #[46] }] w fun e w' => e = .returned (.string (strOf (jnL l))) ∧ w = w' := by
  have HR := Lib.hid hrd; have HZ := Lib.hid hz
  clear hrd hz
  go_enter Try.func51, Try.ntmps51
  go_wp2_with fail
  go_loop [5, 6, 7, 10] (fun v _ _ i => ∃ k : Nat, k ≤ l.length ∧ i = .int .i64 k ∧ ∃ acc : ByteArray, v = .string acc ∧ acc = strOf (jnL (l.take k))) (fun _ _ _ i => l.length - (intOf i).toNat)
  case atStart => exact ⟨0, by omega, rfl, _, rfl, rfl⟩
  case round =>
    obtain ⟨k, hk, rfl, acc, rfl, hacc⟩ := hrel
    have HACC := Lib.hid hacc
    by_cases hlt : k < l.length
    · obtain ⟨x, hx⟩ := some_of_lt (l := l) (k := k) hlt
      obtain ⟨ad, rfl, hc⟩ := HR.out.at_ (map_at Value.string hx)
      have hxs := HZ.out x (List.mem_of_getElem? hx)
      have hjn : jnL (l.take (k + 1)) = if l.take k = [] then L x else jnL (l.take k) ++ [46] ++ L x := by rw [List.take_add_one, hx]; exact jn_snoc _ _
      have hjl := jn_take l HZ.out k hk
      obtain ⟨sz, hsz⟩ : ∃ sz, (jnL (l.take k)).length = sz := ⟨_, rfl⟩
      have hs1 : acc.size = sz := by rw [hacc, strOf_size, hsz]
      have hsb : sz ≤ 401000 := by rw [← hsz]; omega
      have hxL : strOf (L x) = x := bytes_ext (by rw [show (strOf (L x)).data.toList = L (strOf (L x)) from rfl, strOf_L])
      clear hx hjl hsz hacc
      by_cases hk0 : k = 0
      · subst hk0
        have hfin : strOf (jnL (l.take (0 + 1))) = acc ++ x := by
          rw [HACC.out, hjn, if_pos (by simp), hxL]
          show x = strOf [] ++ x
          apply bytes_ext; simp [strOf, ByteArray.data_append]
        have HF := Lib.hid hfin
        have hc0 : w.cell? ad = some (.string x) := by simpa [Addr.add] using hc
        clear hjn hfin hxL
        go_wp2_with fail
        go_round
        case rel => exact ⟨0 + 1, by omega, by go_num, _, rfl, HF.out.symm⟩
        case measure => simp [intOf]; omega
      · have hne : ¬ l.take k = [] := by intro h; have := congrArg List.length h; rw [List.length_take, List.length_nil] at this; omega
        have hfin : strOf (jnL (l.take (k + 1))) = acc ++ { data := #[46] } ++ x := by
          rw [HACC.out, hjn, if_neg hne]
          conv => rhs; rw [← hxL]
          show _ = strOf (jnL (l.take k)) ++ strOf [46] ++ strOf (L x)
          rw [strOf_app, strOf_app]
        have hs2 : (acc ++ ({ data := #[46] } : ByteArray)).size = sz + 1 := by
          rw [ByteArray.size_append, hs1]; rfl
        have hkp : decide (0 < (k : Int)) = true := by simp; omega
        have HF := Lib.hid hfin
        clear hjn hfin hxL hne
        go_wp2_with fail
        go_round
        case rel => exact ⟨k + 1, by omega, by go_num, _, rfl, HF.out.symm⟩
        case measure => simp [intOf]; omega
    · have hkl : l.take k = l := List.take_of_length_le (by omega)
      have HFI := Lib.hid (by rw [hacc, hkl] : acc = strOf (jnL l)); clear hkl hacc
      go_wp2_with fail
      go_ret
      exact ⟨by rw [← HFI.out]; rfl, rfl⟩
end Go.Proofs.Ytfgifbkkclkhiaa
