/- FormatInt of the reference: the decimal numeral of every int. No condition. -/
import Derived.Test.YtaihigaafjmpiaaDoorByt
import Derived.Test.YtaihigaafjmpiaaDoorStr
import Derived.Lib.ItoaNum
import Derived.Lib.LaidTab
import Derived.Lib.SmallJoins
import Derived.Test.YtaihigaafjmpiaaDoorShelf
namespace Go.Proofs.YtaihigaafjmpiaaDoor
open Go.RowKit
set_option linter.unusedVariables false

theorem dd_len : ∀ (m u : Nat), 1 ≤ m → u < 10 ^ m → (Lib.decDigits u).length ≤ m
  | 0, u, h, _ => by omega
  | m + 1, u, _, hu => by
    rw [Lib.decDigits]
    split
    · simp
    · rename_i h10
      have h1 : 1 ≤ m := by
        rcases Nat.eq_zero_or_pos m with h | h
        · subst h; simp at hu; omega
        · exact h
      have := dd_len m (u / 10) h1 (by rw [Nat.pow_succ] at hu; omega)
      rw [List.length_append, List.length_singleton]; omega
theorem dd_len20 {u : Nat} (h : u ≤ 9223372036854775808) : (Lib.decDigits u).length ≤ 20 := by
  have h2 : (10 : Nat) ^ 20 = 100000000000000000000 := by decide
  exact dd_len 20 u (by omega) (by rw [h2]; omega)
theorem dd_small {u : Nat} (h : u < 10) : Lib.decDigits u = [UInt8.ofNat (48 + u)] := by rw [Lib.decDigits, dif_pos h]
theorem dd_big {u : Nat} (h : ¬ u < 10) : Lib.decDigits u = Lib.decDigits (u / 10) ++ [UInt8.ofNat (48 + u % 10)] := by rw [Lib.decDigits, dif_neg h]
theorem strOf_app2 (a b : List UInt8) : strOf a ++ strOf b = strOf (a ++ b) := by
  apply bytes_ext
  simp [strOf, ByteArray.data_append]
theorem conv1 (d : UInt8) (b : Nat) (W : World) (h : W.cell? ⟨b, 0, none⟩ = some (.int .u8 d.toNat)) : (convert 22 9 (.slice (some ⟨b, 0, none⟩) 1 1)).run Tryd.prog W = .ok (.string (strOf [d])) W := by
  refine Rds.conv (l := [d]) (B := b + 1) (A := some ⟨b, 0, none⟩) (fun k u hu => ?_) rfl 22 9 5 1 Tryd.underlying22 Tryd.underlying5 Tryd.underlying9
  have hk : k = 0 := by have := (List.getElem?_eq_some_iff.1 hu).1; simpa [byV] using this
  subst hk
  refine ⟨_, rfl, by simp, ?_⟩
  simp [byV] at hu
  subst hu
  simpa [Addr.add] using h
theorem itoa_len {n : Int} (hn : I64 n) : (Lib.itoa n).length ≤ 21 := by
  unfold I64 at hn
  unfold Lib.itoa
  split
  · have := dd_len20 (u := n.natAbs) (by omega)
    rw [List.length_cons]; omega
  · have := dd_len20 (u := n.toNat) (by omega)
    omega
theorem below_gr (w : World) (k : Nat) (os : Array Obj) : Below w.heap.size w (Go.Sort.grow (w.drewN k) os) :=
  ⟨rfl, rfl, rfl, by simp [Go.Sort.grow], fun i hi => by
    show (w.heap ++ os)[i]? = w.heap[i]?
    exact Array.getElem?_append_left hi⟩
/-- The library's table of powers of ten. -/
def TB (w : World) : Prop := Lib.TabIs Tryd.prog w "internal/strconv.uint64pow10" .u64 Lib.pow10Tab
theorem TB.below {w w' : World} (h : TB w) (hb : Below w.heap.size w w') : TB w' := Joins.tab_stays (g := (Tryd.prog.globalNamed "internal/strconv.uint64pow10").getD 0) (by kernel_rfl) h hb (Nat.le_refl _)
theorem TB.dr {w w' : World} (h : TB w) (hd : Dr w w') : TB w' := h.below hd.below
theorem iFormatInt_any (n : Int) (hn : I64 n) (w : World) (ht : TB w) :
    Calls Tryd.prog 40 #[.int .i64 n] w fun e w' => e = .returned (.string (strOf (Lib.itoa n))) ∧ Below w.heap.size w w' := by
  unfold I64 at hn
  have hc := Tryd.strconv_Itoa n hn.1 hn.2 w ht
  have HC := Lib.hid hc
  clear hc
  go_enter Tryd.func40, Tryd.ntmps40
  go_wp2_with fail
  refine HC.out.mono ?_
  rintro e w1 ⟨rfl, k, os, rfl⟩
  go_wp2_with fail
  go_ret
  exact ⟨rfl, below_gr w k os⟩
end Go.Proofs.YtaihigaafjmpiaaDoor
