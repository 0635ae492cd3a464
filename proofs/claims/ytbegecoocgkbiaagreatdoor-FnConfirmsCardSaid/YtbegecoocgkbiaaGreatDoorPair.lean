/- Lists of strings: where a string stands in one; whether one is a list of pairs, in order, each once. No condition but the bounds. -/
import Derived.Test.YtbegecoocgkbiaaGreatDoorM1
import Derived.Test.YtbegecoocgkbiaaGreatDoorStr
namespace Go.Proofs.YtbegecoocgkbiaaGreatDoor
open Go.RowKit
set_option linter.unusedVariables false

def ixGo (x : ByteArray) : List ByteArray → Int → Int
  | [], _ => -1
  | y :: r, i => if x = y then i else ixGo x r (i + 1)
/-- The first index of x in ss, or -1. -/
def atIx (ss : List ByteArray) (x : ByteArray) : Int := ixGo x ss 0
theorem ixGo_ge (x : ByteArray) : ∀ (r : List ByteArray) (i : Int), 0 ≤ i → (ixGo x r i = -1 ∨ i ≤ ixGo x r i) ∧ ixGo x r i ≤ i + r.length
  | [], i, h => ⟨.inl rfl, by show (-1 : Int) ≤ _; simp; omega⟩
  | y :: r, i, h => by
    have ih := ixGo_ge x r (i + 1) (by omega)
    unfold ixGo
    split
    · exact ⟨.inr (Int.le_refl _), by simp; omega⟩
    · refine ⟨?_, ?_⟩
      · rcases ih.1 with h1 | h1
        · exact .inl h1
        · exact .inr (by omega)
      · have := ih.2; simp at this ⊢; omega
def hasS (ss : List ByteArray) (x : ByteArray) : Bool := decide (0 ≤ atIx ss x)
theorem hasS_lt (ss : List ByteArray) (x : ByteArray) : decide (atIx ss x < 0) = !hasS ss x := by
  unfold hasS
  by_cases h : 0 ≤ atIx ss x
  · rw [decide_eq_true h, decide_eq_false (by omega)]; rfl
  · rw [decide_eq_false h, decide_eq_true (by omega)]; rfl

set_option maxHeartbeats 400000 in
theorem indexS_any (ss : List ByteArray) (x : ByteArray) (A : Option Addr) (c B : Nat) (w : World) (hn : ss.length ≤ 4294967296) (hrd : Rds w B A (ss.map Value.string)) :
    Calls Tryz.prog 147 #[.slice A ss.length c, .string x] w fun e w' => e = .returned (.int .i64 (atIx ss x)) ∧ Dr w w' := by
  have HR := Lib.hid hrd; clear hrd
  go_enter Tryz.func147, Tryz.ntmps147
  go_wp2_with fail
  go_loop [5, 8] (fun _ i => ∃ k : Nat, k ≤ ss.length ∧ i = .int .i64 k ∧ ixGo x (ss.drop k) k = atIx ss x) (fun _ i => ss.length - (intOf i).toNat)
  case atStart => exact ⟨0, by omega, rfl, rfl⟩
  case round =>
    obtain ⟨k, hk, rfl, hg⟩ := hrel
    have HG := Lib.hid hg; clear hg
    by_cases hlt : k < ss.length
    · obtain ⟨s, hs⟩ := some_of_lt (l := ss) (k := k) hlt
      obtain ⟨ad, rfl, hc⟩ := HR.out.at_ (map_at Value.string hs)
      have HD := Lib.hid (drop_at_list hs); clear hs
      by_cases hxs : x = s
      · have he : (x.toList == s.toList) = true := by rw [str_eq, decide_eq_true hxs]
        have HX := Lib.hid hxs; clear hxs
        go_wp2_with fail
        go_ret
        exact ⟨ret_int (by rw [← HG.out, HD.out, ixGo, if_pos HX.out]), Dr.refl _⟩
      · have he : (x.toList == s.toList) = false := str_ne hxs
        have HX := Lib.hid hxs; clear hxs
        go_wp2_with fail
        go_round
        case rel => exact ⟨k + 1, by omega, by go_num, by rw [← HG.out, HD.out, ixGo, if_neg HX.out]; rfl⟩
        case measure => simp [intOf]; omega
    · have h0 : ss.drop k = [] := List.drop_eq_nil_of_le (by omega)
      have H0 := Lib.hid h0; clear h0
      go_wp2_with fail
      go_ret
      exact ⟨ret_int (by rw [← HG.out, H0.out]; rfl), Dr.refl _⟩
set_option maxHeartbeats 400000 in
theorem containsS_any (ss : List ByteArray) (x : ByteArray) (A : Option Addr) (c B : Nat) (w : World) (hn : ss.length ≤ 4294967296) (hrd : Rds w B A (ss.map Value.string)) :
    Calls Tryz.prog 167 #[.slice A ss.length c, .string x] w fun e w' => e = .returned (.bool (hasS ss x)) ∧ Dr w w' := by
  have HR := Lib.hid hrd; clear hrd
  go_enter Tryz.func167, Tryz.ntmps167
  go_wp2_with fail
  refine (indexS_any ss x A c B _ hn HR.out).mono ?_
  rintro e w1 ⟨rfl, d1⟩
  go_wp2_with fail
  go_ret
  exact ⟨rfl, d1⟩

def sLe (a b : ByteArray) : Bool := Op.bytesLess a.toList b.toList || a.toList == b.toList
def pairW (s : ByteArray) : Bool := isW (L s) && decide (s.size = 2)
def prGo : Option ByteArray → List ByteArray → Bool
  | _, [] => true
  | p, s :: r => pairW s && (match p with | none => true | some q => !(sLe s q)) && prGo (some s) r
/-- Whether ss are pairs, in order, each once. -/
def pairsOk (ss : List ByteArray) : Bool := prGo none ss
def prevOf (ss : List ByteArray) (k : Nat) : Option ByteArray := if k = 0 then none else ss[k - 1]?
theorem prevOf_succ (ss : List ByteArray) (k : Nat) : prevOf ss (k + 1) = ss[k]? := by simp [prevOf]
theorem prGo_cons (p : Option ByteArray) (s : ByteArray) (r : List ByteArray) : prGo p (s :: r) = (pairW s && (match p with | none => true | some q => !(sLe s q)) && prGo (some s) r) := rfl
theorem prGo_bad {p : Option ByteArray} {s : ByteArray} {r : List ByteArray} (h : pairW s = false) : prGo p (s :: r) = false := by rw [prGo_cons, h]; rfl

end Go.Proofs.YtbegecoocgkbiaaGreatDoor
