/- IsBinary, both: words of the letters a and b alone (the first half of XBin: never import both). No condition but the bounds. -/
import Derived.Test.YtoclnikpieebcaaDoorStr
import Derived.Test.YtoclnikpieebcaaDoorByt
import Derived.Test.YtoclnikpieebcaaDoorShelf
namespace Go.Proofs.YtoclnikpieebcaaDoor
open Go.RowKit
set_option linter.unusedVariables false

/-- Whether all letters are among the first n. -/
def winL (n : Nat) (l : List UInt8) : Bool := l.all fun b => decide (b.toNat < 97 + n)
def binW (l : List UInt8) : Bool := isW l && winL 2 l
def swC (b : UInt8) : UInt8 := if b = 97 then 98 else 97
def swW (l : List UInt8) : List UInt8 := l.map swC
theorem isW_okc {l : List UInt8} (h : isW l = true) {k : Nat} {b : UInt8} (hb : l[k]? = some b) : 97 ≤ b.toNat ∧ b.toNat ≤ 100 := by
  unfold isW at h
  simp only [Bool.and_eq_true, List.all_eq_true] at h
  have := h.1 b (List.mem_of_getElem? hb)
  unfold okc at this
  simpa using this
theorem L_at (s : ByteArray) (k : Nat) (h : k < s.size) : (L s)[k]? = some s[k] := by
  rw [List.getElem?_eq_getElem (by rw [L_len]; exact h)]; rfl
set_option maxHeartbeats 400000 in
theorem l03Within_any (n : Nat) (s : ByteArray) (hn : n ≤ 1000) (hs : isW (L s) = true) (w : World) :
    Calls Tryd.prog 30 #[.int .i64 n, .string s] w fun e w' => e = .returned (.bool (winL n (L s))) ∧ w = w' := by
  have h400 := isW_len hs
  rw [L_len] at h400
  have HS := Lib.hid hs; clear hs
  go_enter Tryd.func30, Tryd.ntmps30
  go_wp2_with fail
  go_loop [5] (fun i => ∃ k : Nat, k ≤ s.size ∧ i = .int .i64 k ∧ winL n ((L s).drop k) = winL n (L s)) (fun i => s.size - (intOf i).toNat)
  case atStart => exact ⟨0, by omega, rfl, rfl⟩
  case round =>
    obtain ⟨k, hk, rfl, hg⟩ := hrel
    have HG := Lib.hid hg; clear hg
    by_cases hlt : k < s.size
    · obtain ⟨bb, hbb⟩ : ∃ bb, s[k]'hlt = bb := ⟨_, rfl⟩
      have hb := isW_okc HS.out (L_at s k hlt)
      rw [hbb] at hb
      have hdd := drop_at s k hlt
      rw [hbb] at hdd
      have HD := Lib.hid hdd
      obtain ⟨p, hp⟩ : ∃ p, bb.toNat - 97 = p := ⟨_, rfl⟩
      have m1 : IntKind.u8.wrap ((bb.toNat : Int) - 97) = (p : Int) := by rw [IntWalk.u8_in _ (by omega)]; omega
      have p2 : p < 4 := by omega
      have hpw : bb.toNat < 97 + n ↔ p < n := by omega
      have HPW := Lib.hid hpw
      clear hb hdd hp hpw
      by_cases hpn : p < n
      · have HW := Lib.hid (HPW.out.2 hpn)
        go_wp2_with fail
        go_round
        case rel => exact ⟨k + 1, by omega, by go_num, by rw [← HG.out, HD.out, winL, winL, List.all_cons, decide_eq_true HW.out]; rfl⟩
        case measure => simp [intOf]; omega
      · have HW := Lib.hid (fun h => hpn (HPW.out.1 h))
        go_wp2_with fail
        go_ret
        exact ⟨ret_bool (by rw [← HG.out, HD.out, winL, List.all_cons, decide_eq_false HW.out]; rfl), rfl⟩
    · have h0 : (L s).drop k = [] := drop_end s k hlt
      have H0 := Lib.hid h0; clear h0
      go_wp2_with fail
      go_ret
      exact ⟨ret_bool (by rw [← HG.out, H0.out]; rfl), rfl⟩
end Go.Proofs.YtoclnikpieebcaaDoor
