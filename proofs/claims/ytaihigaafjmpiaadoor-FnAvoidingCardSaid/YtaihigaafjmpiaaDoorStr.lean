/- Words: whether a string is a word; how many letters of two words differ. Each function returns what the plain function says. -/
import Derived.Test.YtaihigaafjmpiaaDoorNum
namespace Go.Proofs.YtaihigaafjmpiaaDoor
open Go.RowKit
set_option linter.unusedVariables false

def okc (c : UInt8) : Bool := decide (97 ≤ c.toNat ∧ c.toNat ≤ 100)
/-- Whether letters make a word. -/
def isW (l : List UInt8) : Bool := l.all okc && decide (l.length ≤ 400)
theorem isW_of {l : List UInt8} {b : Bool} (h : isW l = b) : isW l = b := h
theorem isW_len {l : List UInt8} (h : isW l = true) : l.length ≤ 400 := by
  simp [isW] at h; exact h.2
theorem isW_size {s : ByteArray} (h : isW (L s) = true) : s.size ≤ 400 := by
  have := isW_len h; rwa [L_len] at this

set_option maxHeartbeats 400000 in
theorem isWord_any (s : ByteArray) (hs : s.size ≤ maxLen) (w : World) :
    Calls Tryd.prog 24 #[.string s] w fun e w' => e = .returned (.bool (isW (L s))) ∧ w = w' := by
  unfold maxLen at hs
  go_enter Tryd.func24, Tryd.ntmps24
  go_wp2
  go_loop [3, 6] (fun _ i => ∃ k : Nat, k ≤ s.size ∧ i = .int .i64 k ∧ ((L s).drop k).all okc = (L s).all okc) (fun _ i => s.size - (intOf i).toNat)
  case atStart => exact ⟨0, by omega, rfl, rfl⟩
  case round =>
    obtain ⟨k, hk, rfl, hg⟩ := hrel
    have H := Lib.hid hg; clear hg
    by_cases h0 : k < s.size
    · have H1 := Lib.hid (drop_at s k h0)
      by_cases h1 : 97 ≤ (s[k].toNat : Int) ∧ (s[k].toNat : Int) ≤ 100
      · obtain ⟨h1, h2⟩ := h1
        go_wp2
        go_round
        case rel => exact ⟨k + 1, by omega, by go_num, by rw [← H.out, H1.out, List.all_cons, show okc s[k] = true from decide_eq_true (by omega), Bool.true_and]⟩
        case measure => simp [intOf]; omega
      · have h2 : okc s[k] = false := decide_eq_false (by omega)
        have H2 := Lib.hid h2; clear h2
        have h3 : (s[k].toNat : Int) < 97 ∨ 100 < (s[k].toNat : Int) := by omega
        clear h1
        rcases h3 with h3 | h3
        all_goals
          go_wp2
          go_ret
          exact ⟨ret_bool (by rw [isW, ← H.out, H1.out, List.all_cons, H2.out]; rfl), rfl⟩
    · have H1 := Lib.hid (drop_end s k h0)
      go_wp2
      go_ret
      exact ⟨ret_bool (by rw [isW, ← H.out, H1.out]; simp; omega), rfl⟩
theorem isWord_is (s : ByteArray) (b : Bool) (hs : s.size ≤ maxLen) (hb : isW (L s) = b) (w : World) :
    Calls Tryd.prog 24 #[.string s] w fun e w' => e = .returned (.bool b) ∧ w = w' := hb ▸ isWord_any s hs w

/-- At how many indices two words differ. -/
def mism : List UInt8 → List UInt8 → Nat
  | a :: l, b :: m => (if a = b then 0 else 1) + mism l m
  | _, _ => 0
theorem mism_le : ∀ l m : List UInt8, mism l m ≤ l.length
  | [], _ => by simp [mism]
  | _ :: _, [] => by simp [mism]
  | a :: l, b :: m => by have := mism_le l m; simp only [mism, List.length_cons]; split <;> omega
theorem mism_comm : ∀ l m : List UInt8, mism l m = mism m l
  | [], [] => rfl
  | [], _ :: _ => rfl
  | _ :: _, [] => rfl
  | a :: l, b :: m => by simp only [mism]; rw [mism_comm l m]; congr 1; by_cases h : a = b <;> simp [h, eq_comm]
theorem mism_at (s t : ByteArray) (k : Nat) (hs : k < s.size) (ht : k < t.size) :
    mism ((L s).drop k) ((L t).drop k) = (if s[k] = t[k] then 0 else 1) + mism ((L s).drop (k + 1)) ((L t).drop (k + 1)) := by
  rw [drop_at s k hs, drop_at t k ht, mism]
theorem u8_ne {a b : UInt8} (h : ((a.toNat : Int) != (b.toNat : Int)) = true) : a ≠ b := by
  rintro rfl; simp at h
theorem u8_eq {a b : UInt8} (h : ((a.toNat : Int) != (b.toNat : Int)) = false) : a = b := by
  simp at h; exact UInt8.toNat_inj.1 (by omega)

end Go.Proofs.YtaihigaafjmpiaaDoor
