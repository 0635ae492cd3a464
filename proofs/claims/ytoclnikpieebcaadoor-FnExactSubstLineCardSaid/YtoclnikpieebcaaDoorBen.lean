/- Benches and substitutions as arguments: what is read of them, what is copied. No condition. -/
import Derived.Test.YtoclnikpieebcaaDoorHelp
import Derived.Test.YtoclnikpieebcaaDoorBin
import Derived.Lib.SmallJoins
import Derived.Test.YtoclnikpieebcaaDoorBox
import Derived.Laws.Rows
namespace Go.Proofs.YtoclnikpieebcaaDoor
open Go.RowKit Go.ChangeShapes Go.WideShapes
set_option linter.unusedVariables false

theorem szS_le (ss : List ByteArray) (l : Int) (h0 : 0 ≤ l) : szS ss l ≤ l ∧ -1 ≤ szS ss l := by
  have hgo : ∀ (ss : List ByteArray) (l : Int), 0 ≤ l → szGo ss l ≤ l ∧ -1 ≤ szGo ss l := by
    intro ss
    induction ss with
    | nil => intro l h; exact ⟨Int.le_refl _, by simp only [szGo]; omega⟩
    | cons s ss ih =>
      intro l h
      simp only [szGo]
      split
      · omega
      · have := ih (l - s.size) (by omega)
        omega
  unfold szS
  split
  · omega
  · have := hgo ss (l - ss.length) (by omega)
    omega
section
variable {H : Type} {enc : TypeId × Value → H} {W : World} {r : Reach} {b0 : Nat} {v : Value} {d : DataW H} {ps : List MemPlace}
set_option maxRecDepth 100000 in
theorem subst_in (hv : Value.okWide Tryd.prog W r b0 24 v) (h : DataW.Trod enc Tryd.prog W 0 (fun _ => true) true 24 v d ps) (hlt : ∀ x ∈ ps, x.block < W.heap.size) :
    ∃ A n c zs, v = .agg #[.slice A n c] ∧ StrsIn W A n c zs := by
  obtain ⟨cs, rfl, hsz⟩ := okWide_struct Tryd.underlying24 hv
  have hC : Tryd.prog.cellsOf 24 = 1 := by kernel_rfl
  rw [hC] at hsz
  obtain ⟨v0, rfl⟩ : ∃ v0, cs = #[v0] := Array.size_eq_one_iff.1 hsz
  obtain ⟨fuel, hf⟩ := h
  obtain ⟨z0, k, hy, _, hz⟩ := trod_struct1 Tryd.underlying24 hf
  have hc1 : Tryd.prog.cellsOf 22 = 1 := by kernel_rfl
  have hz' : DataW.trod enc Tryd.prog W 0 (fun _ => true) true k 22 [v0] = some z0 := by
    have h2 := hz
    simp only [List.drop_zero, hc1, Value.cells] at h2
    exact h2
  have hp : ps = z0.2 := (Prod.mk.inj hy).2
  have hpz : ∀ x ∈ z0.2, x.block < W.heap.size := fun x hx => hlt x (by rw [hp]; exact hx)
  rcases open_strings Tryd.underlying22 Tryd.underlying9 (by kernel_rfl) hz' with ⟨hcs, _⟩ | ⟨x, l, cap, zs, hcs, _⟩
  · have he : v0 = .slice none 0 0 := by simpa using hcs
    subst he
    obtain ⟨zs, hzs⟩ := strs_in (W := W) (A := none) (n := 0) (c := 0) Tryd.underlying22 Tryd.underlying9 (by kernel_rfl) ⟨k, hz'⟩ hpz
    exact ⟨none, 0, 0, zs, rfl, hzs⟩
  · have he : v0 = .slice (some x) l cap := by simpa using hcs
    subst he
    obtain ⟨zs, hzs⟩ := strs_in (W := W) (A := some x) (n := l) (c := cap) Tryd.underlying22 Tryd.underlying9 (by kernel_rfl) ⟨k, hz'⟩ hpz
    exact ⟨some x, l, cap, zs, rfl, hzs⟩
end
theorem szSubst_any (zs : List ByteArray) (A : Option Addr) (n c : Nat) (w : World) (h : StrsIn w A n c zs) :
    Calls Tryd.prog 4 #[.agg #[.slice A n c], .int .i64 1048576] w fun e w' => ∃ r : Int, e = .returned (.int .i64 r) ∧ (0 ≤ r → n ≤ 1048576) ∧ r ≤ 1048576 ∧ -1 ≤ r ∧ Below w.heap.size w w' := by
  have hl := h.1
  have hle := szS_le zs 1048576 (by omega)
  have hln : ¬ szS zs 1048576 < 0 → (zs.length : Int) ≤ 1048576 := szS_len
  rw [hl] at hln
  have HH := Lib.hid (h.later ((Below.refl _ w).alloc (Nat.le_refl _) (.cells #[.slice A n c] 24)))
  clear h hl
  have hc := szStringS_any zs A n c 1048576 (w.alloc (.cells #[.slice A n c] 24)) (by omega) (by omega) HH.out
  obtain ⟨r, hr⟩ : ∃ r, szS zs 1048576 = r := ⟨_, rfl⟩
  rw [hr] at hle hln hc
  have HC := Lib.hid hc
  have h1 := hle.1
  have h2 := hle.2
  have HLN := Lib.hid hln
  clear hle hln hc hr
  go_enter Tryd.func4, Tryd.ntmps4
  go_wp2_with fail
  refine HC.out.mono ?_
  rintro e w1 ⟨rfl, d1⟩
  have b1 : Below w.heap.size w w1 := ((Below.refl _ _).alloc (Nat.le_refl _) _).trans d1.below
  by_cases hz : r < 0
  · go_wp2_with fail
    go_ret
    exact ⟨-1, rfl, fun h => by omega, by omega, by omega, b1⟩
  · go_wp2_with fail
    go_ret
    exact ⟨r, rfl, fun h => by have := HLN.out hz; omega, h1, h2, b1⟩
theorem toSubst_any (zs : List ByteArray) (A : Option Addr) (n c : Nat) (w : World) (hn : n ≤ 1048576) (h : StrsIn w A n c zs) :
    Calls Tryd.prog 6 #[.agg #[.slice A n c]] w fun e w' => ∃ A' c', e = .returned (.agg #[.slice A' n c']) ∧ Own w' w.heap.size 9 (.slice A' n c') (zs.map Value.string) ∧ Below w.heap.size w w' := by
  have hbx := boxes3 w (.cells #[.slice A n c] 24) #[.slice none 0 0] #[.slice none 0 0] 27 27
  have hz3 : (((w.alloc (.cells #[.slice A n c] 24)).alloc (.cells #[.slice none 0 0] 27)).alloc (.cells #[.slice none 0 0] 27)).heap.size = w.heap.size + 1 + 1 + 1 := by simp
  have hb3 : Below w.heap.size w (((w.alloc (.cells #[.slice A n c] 24)).alloc (.cells #[.slice none 0 0] 27)).alloc (.cells #[.slice none 0 0] 27)) := (((Below.refl _ w).alloc (Nat.le_refl _) _).alloc (by simp) _).alloc (by simp; omega) _
  have hcall := toStringS_any zs A n c _ hn (h.later hb3)
  rw [hz3] at hcall
  have HC := Lib.hid hcall; have HBX := Lib.hid hbx; have HB3 := Lib.hid hb3; have HZ3 := Lib.hid hz3
  clear hcall hbx hb3 h hz3
  go_enter Tryd.func6, Tryd.ntmps6
  go_wp2_with fail
  refine HC.out.mono ?_
  rintro e w1 ⟨A', c', rfl, hown, b1⟩
  have hs1 := b1.size
  have q1 : w1.heap[w.heap.size + 1]? = some (.cells #[.slice none 0 0] 27 (0, 0)) := (b1.block _ (Nat.lt_succ_of_lt (Nat.lt_succ_self _))).trans HBX.out.1
  have q2 : w1.heap[w.heap.size + 1 + 1]? = some (.cells #[.slice none 0 0] 27 (0, 0)) := (b1.block _ (Nat.lt_succ_self _)).trans HBX.out.2
  have k1 : w1.cell? ⟨w.heap.size + 1, 0, none⟩ = some (.slice none 0 0) := cell_of_row _ _ 0 _ _ (0, 0) q1
  have k2 : w1.cell? ⟨w.heap.size + 1 + 1, 0, none⟩ = some (.slice none 0 0) := cell_of_row _ _ 0 _ _ (0, 0) q2
  have f1 : w1.frozen? ⟨w.heap.size + 1, 0, none⟩ = false := frozen_of_row _ _ 0 _ _ q1
  have f2 : w1.frozen? ⟨w.heap.size + 1 + 1, 0, none⟩ = false := frozen_of_row _ _ 0 _ _ q2
  have bw1 : Below w.heap.size w w1 := HB3.out.trans (b1.mono (by omega))
  have q3 := Lib.hid (box_set (k := 0) (box_far (g' := w.heap.size + 1 + 1) (k := 0) q1 (by omega) (.slice A' n c')) (.slice A' n c'))
  have HO := Lib.hid (((hown.far_set (g := w.heap.size + 1 + 1) (k := 0) (Nat.lt_succ_self _) (.slice A' n c')).far_set (g := w.heap.size + 1) (k := 0) (by omega) (.slice A' n c')).lower (B' := w.heap.size) (by omega))
  clear hown b1 q1 q2
  go_wp2_with fail
  refine bodyPost_ret (v := .agg #[.slice A' n c']) (results_cell_row rfl _ _ (w.heap.size + 1) 27 _ (0, 0) _ rfl q3.out Tryd.underlying27 rfl (by kernel_rfl)) rfl ⟨A', c', rfl, HO.out, ?_⟩
  exact (bw1.setCell (by show w.heap.size ≤ w.heap.size + 1 + 1; omega) _).setCell (by show w.heap.size ≤ w.heap.size + 1; omega) _
theorem eqSubst_same (zs : List ByteArray) (A A' : Option Addr) (c c' B B' : Nat) (w : World) (hB : B ≤ w.heap.size) (hB' : B' ≤ w.heap.size) (hx : Rds w B A (zs.map Value.string)) (hy : Rds w B' A' (zs.map Value.string)) (hn : zs.length ≤ 4294967296) :
    Calls Tryd.prog 8 #[.agg #[.slice A zs.length c], .agg #[.slice A' zs.length c']] w fun e w' => e = .returned (.bool true) ∧ Below w.heap.size w w' := by
  have b2 : Below w.heap.size w ((w.alloc (.cells #[.slice A zs.length c] 27)).alloc (.cells #[.slice A' zs.length c'] 27)) := ((Below.refl _ w).alloc (Nat.le_refl _) _).alloc (by simp) _
  have hc := eqStringS_same zs A A' c c' B B' _ (hx.below b2 hB) (hy.below b2 hB') hn
  have HC := Lib.hid hc; have HB2 := Lib.hid b2
  clear hc b2 hx hy
  go_enter Tryd.func8, Tryd.ntmps8
  go_wp2_with fail
  refine HC.out.mono ?_
  rintro e w1 ⟨rfl, d1⟩
  go_wp2_with fail
  go_ret
  exact ⟨rfl, HB2.out.trans d1.below⟩
end Go.Proofs.YtoclnikpieebcaaDoor
