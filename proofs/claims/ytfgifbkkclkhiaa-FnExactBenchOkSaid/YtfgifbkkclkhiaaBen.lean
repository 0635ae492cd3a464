/- Benches and substitutions as arguments: what is read of them, what is copied. No condition. -/
import Derived.Test.YtfgifbkkclkhiaaHelp
import Derived.Test.YtfgifbkkclkhiaaBin
import Derived.Lib.SmallJoins
import Derived.Laws.Rows
namespace Go.Proofs.Ytfgifbkkclkhiaa
open Go.RowKit Go.ChangeShapes Go.WideShapes
set_option linter.unusedVariables false

section
variable {H : Type} {enc : TypeId × Value → H} {W : World} {r : Reach} {b0 : Nat} {v : Value} {d : DataW H} {ps : List MemPlace}
set_option maxRecDepth 100000 in
theorem bench_in (hv : Value.okWide Try.prog W r b0 30 v) (h : DataW.Trod enc Try.prog W 0 (fun _ => true) true 30 v d ps) (hlt : ∀ x ∈ ps, x.block < W.heap.size) :
    ∃ A n c zs s, v = .agg #[.slice A n c, .string s] ∧ StrsIn W A n c zs ∧ s.size ≤ maxLen := by
  obtain ⟨v0, v1, y0, y1, m, rfl, _, hp, h0, h1⟩ := Joins.open_agg2 Try.underlying30 (by kernel_rfl) (by kernel_rfl) hv h
  obtain ⟨s, hs, _, hsz⟩ := DataW.trod_string Try.underlying9 h1
  obtain ⟨z0, k, hy, _, hz⟩ := trod_struct1 Try.underlying28 h0
  have hc1 : Try.prog.cellsOf 22 = 1 := by kernel_rfl
  have hz' : DataW.trod enc Try.prog W 0 (fun _ => true) true k 22 [v0] = some z0 := by
    have h2 := hz
    simp only [List.drop_zero, hc1, List.take_succ_cons, List.take_zero] at h2
    exact h2
  have hs1 : v1 = .string s := by simpa using hs
  subst hs1
  have hpz : ∀ x ∈ z0.2, x.block < W.heap.size := fun x hx => hlt x (by rw [hp]; exact List.mem_append_left _ (by rw [hy]; exact hx))
  rcases open_strings Try.underlying22 Try.underlying9 (by kernel_rfl) hz' with ⟨hcs, _⟩ | ⟨x, l, cap, zs, hcs, _⟩
  · have he : v0 = .slice none 0 0 := by simpa using hcs
    subst he
    obtain ⟨zs, hzs⟩ := strs_in (W := W) (A := none) (n := 0) (c := 0) Try.underlying22 Try.underlying9 (by kernel_rfl) ⟨k, hz'⟩ hpz
    exact ⟨none, 0, 0, zs, s, rfl, hzs, hsz⟩
  · have he : v0 = .slice (some x) l cap := by simpa using hcs
    subst he
    obtain ⟨zs, hzs⟩ := strs_in (W := W) (A := some x) (n := l) (c := cap) Try.underlying22 Try.underlying9 (by kernel_rfl) ⟨k, hz'⟩ hpz
    exact ⟨some x, l, cap, zs, s, rfl, hzs, hsz⟩
end
/-- Three boxes: what the second and the third one hold. -/
theorem boxes3 (w : World) (o1 : Obj) (c2 c3 : Array Value) (t2 t3 : TypeId) :
    (((w.alloc o1).alloc (.cells c2 t2)).alloc (.cells c3 t3)).heap[w.heap.size + 1]? = some (.cells c2 t2 (0, 0)) ∧ (((w.alloc o1).alloc (.cells c2 t2)).alloc (.cells c3 t3)).heap[w.heap.size + 1 + 1]? = some (.cells c3 t3 (0, 0)) := by
  have s1 : (w.alloc o1).heap.size = w.heap.size + 1 := by simp
  have s2 : ((w.alloc o1).alloc (.cells c2 t2)).heap.size = w.heap.size + 1 + 1 := by simp
  have h2 := heap_alloc_new (w.alloc o1) (.cells c2 t2)
  have h3 := heap_alloc_new ((w.alloc o1).alloc (.cells c2 t2)) (.cells c3 t3)
  rw [s1] at h2
  rw [s2] at h3
  exact ⟨(heap_alloc_old ((w.alloc o1).alloc (.cells c2 t2)) (.cells c3 t3) (by rw [s2]; omega)).trans h2, h3⟩
theorem boxes3_first (w : World) (c1 : Array Value) (t1 : TypeId) (o2 o3 : Obj) : (((w.alloc (.cells c1 t1)).alloc o2).alloc o3).heap[w.heap.size]? = some (.cells c1 t1 (0, 0)) :=
  (heap_alloc_old _ _ (by simp; omega)).trans ((heap_alloc_old _ _ (by simp)).trans (heap_alloc_new _ _))
/-- A box whose cell k is set. -/
theorem box_set {w : World} {g k : Nat} {cs : Array Value} {t : TypeId} (h : w.heap[g]? = some (.cells cs t (0, 0))) (u : Value) : (w.setCell ⟨g, k, none⟩ u).heap[g]? = some (.cells (cs.setIfInBounds k u) t (0, 0)) := by
  rw [setCell_eq_setRow w g k cs t (0, 0) u h]
  exact setRow_heap w g _ _ t (0, 0) h
theorem box_far {w : World} {g g' k : Nat} {o : Option Obj} (h : w.heap[g]? = o) (hne : g ≠ g') (u : Value) : (w.setCell ⟨g', k, none⟩ u).heap[g]? = o := by
  rw [heap_setCell_other w ⟨g', k, none⟩ g u hne]; exact h
theorem Own.far_set {w : World} {B g k : Nat} {E : TypeId} {v : Value} {xs : List Value} (h : Own w B E v xs) (hg : g < B) (u : Value) : Own (w.setCell ⟨g, k, none⟩ u) B E v xs := by
  have hgr : w.grownBy (w.setCell ⟨g, k, none⟩ u) (some g) := ⟨rfl, rfl, rfl, by simp, fun i _ hne => heap_setCell_other w ⟨g, k, none⟩ i u (fun he => hne (by simp [he]))⟩
  refine World.ownsRow.kept h hgr ?_
  cases hv : v.ownBlock with
  | none => exact .inl rfl
  | some q =>
    right; intro he
    have h1 := (World.ownsRow.lt h q hv).1
    have : q = g := by simpa using he
    omega
theorem szS_le (ss : List ByteArray) (l : Int) (h0 : 0 ≤ l) : szS ss l ≤ l ∧ -1 ≤ szS ss l := by
  have hgo : ∀ (ss : List ByteArray) (l : Int), 0 ≤ l → szGo ss l ≤ l ∧ -1 ≤ szGo ss l := by
    intro ss
    induction ss with
    | nil => intro l h; exact ⟨Int.le_refl _, by simp only [szGo]; omega⟩
    | cons s ss ih =>
      intro l h
      simp only [szGo]
      split
      · omega
      · have := ih (l - s.size) (by omega)
        omega
  unfold szS
  split
  · omega
  · have := hgo ss (l - ss.length) (by omega)
    omega
theorem szSubst_any (zs : List ByteArray) (A : Option Addr) (n c : Nat) (w : World) (h : StrsIn w A n c zs) :
    Calls Try.prog 45 #[.agg #[.slice A n c], .int .i64 1048576] w fun e w' => ∃ r : Int, e = .returned (.int .i64 r) ∧ (0 ≤ r → n ≤ 1048576) ∧ r ≤ 1048576 ∧ -1 ≤ r ∧ Below w.heap.size w w' := by
  have hl := h.1
  have hle := szS_le zs 1048576 (by omega)
  have hln : ¬ szS zs 1048576 < 0 → (zs.length : Int) ≤ 1048576 := szS_len
  rw [hl] at hln
  have HH := Lib.hid (h.later ((Below.refl _ w).alloc (Nat.le_refl _) (.cells #[.slice A n c] 28)))
  clear h hl
  have hc := szStringS_any zs A n c 1048576 (w.alloc (.cells #[.slice A n c] 28)) (by omega) (by omega) HH.out
  obtain ⟨r, hr⟩ : ∃ r, szS zs 1048576 = r := ⟨_, rfl⟩
  rw [hr] at hle hln hc
  have HC := Lib.hid hc
  have h1 := hle.1
  have h2 := hle.2
  have HLN := Lib.hid hln
  clear hle hln hc hr
  go_enter Try.func45, Try.ntmps45
  go_wp2_with fail
  refine HC.out.mono ?_
  rintro e w1 ⟨rfl, d1⟩
  have b1 : Below w.heap.size w w1 := ((Below.refl _ _).alloc (Nat.le_refl _) _).trans d1.below
  by_cases hz : r < 0
  · go_wp2_with fail
    go_ret
    exact ⟨-1, rfl, fun h => by omega, by omega, by omega, b1⟩
  · go_wp2_with fail
    go_ret
    exact ⟨r, rfl, fun h => by have := HLN.out hz; omega, h1, h2, b1⟩
theorem szBench_any (zs : List ByteArray) (s : ByteArray) (A : Option Addr) (n c : Nat) (w : World) (hs : s.size ≤ maxLen) (h : StrsIn w A n c zs) :
    Calls Try.prog 18 #[.agg #[.slice A n c, .string s], .int .i64 1048576] w fun e w' => ∃ r : Int, e = .returned (.int .i64 r) ∧ (0 ≤ r → n ≤ 1048576 ∧ s.size ≤ 1048576) ∧ Below w.heap.size w w' := by
  have hs2 := hs
  unfold maxLen at hs2
  have HH := Lib.hid (h.later ((Below.refl _ w).alloc (Nat.le_refl _) (.cells #[.slice A n c, .string s] 30)))
  clear h
  go_enter Try.func18, Try.ntmps18
  go_wp2_with fail
  refine (szSubst_any zs A n c _ HH.out).mono ?_
  rintro e w1 ⟨r, rfl, hr1, hr2, hr3, b1⟩
  have b2 : Below w.heap.size w w1 := ((Below.refl _ _).alloc (Nat.le_refl _) _).trans (b1.mono (by simp))
  have hcell : w1.cell? ⟨w.heap.size, 1, none⟩ = some (.string s) := by
    rw [b1.cell (p := ⟨w.heap.size, 1, none⟩) (by simp)]; simp
  have HR1 := Lib.hid hr1
  clear hr1 b1
  by_cases hz : r < 0
  · go_wp2_with fail
    go_ret
    exact ⟨-1, rfl, fun h => by omega, b2⟩
  · have hn := HR1.out (by omega)
    by_cases hz2 : r - s.size < 0
    · go_wp2_with fail
      go_ret
      exact ⟨-1, rfl, fun h => by omega, b2⟩
    · go_wp2_with fail
      go_ret
      exact ⟨r - s.size, rfl, fun h => by omega, b2⟩
theorem toSubst_any (zs : List ByteArray) (A : Option Addr) (n c : Nat) (w : World) (hn : n ≤ 1048576) (h : StrsIn w A n c zs) :
    Calls Try.prog 47 #[.agg #[.slice A n c]] w fun e w' => ∃ A' c', e = .returned (.agg #[.slice A' n c']) ∧ Own w' w.heap.size 9 (.slice A' n c') (zs.map Value.string) ∧ Below w.heap.size w w' := by
  have hbx := boxes3 w (.cells #[.slice A n c] 28) #[.slice none 0 0] #[.slice none 0 0] 33 33
  have hz3 : (((w.alloc (.cells #[.slice A n c] 28)).alloc (.cells #[.slice none 0 0] 33)).alloc (.cells #[.slice none 0 0] 33)).heap.size = w.heap.size + 1 + 1 + 1 := by simp
  have hb3 : Below w.heap.size w (((w.alloc (.cells #[.slice A n c] 28)).alloc (.cells #[.slice none 0 0] 33)).alloc (.cells #[.slice none 0 0] 33)) := (((Below.refl _ w).alloc (Nat.le_refl _) _).alloc (by simp) _).alloc (by simp; omega) _
  have hcall := toStringS_any zs A n c _ hn (h.later hb3)
  rw [hz3] at hcall
  have HC := Lib.hid hcall; have HBX := Lib.hid hbx; have HB3 := Lib.hid hb3; have HZ3 := Lib.hid hz3
  clear hcall hbx hb3 h hz3
  go_enter Try.func47, Try.ntmps47
  go_wp2_with fail
  refine HC.out.mono ?_
  rintro e w1 ⟨A', c', rfl, hown, b1⟩
  have hs1 := b1.size
  have q1 : w1.heap[w.heap.size + 1]? = some (.cells #[.slice none 0 0] 33 (0, 0)) := (b1.block _ (Nat.lt_succ_of_lt (Nat.lt_succ_self _))).trans HBX.out.1
  have q2 : w1.heap[w.heap.size + 1 + 1]? = some (.cells #[.slice none 0 0] 33 (0, 0)) := (b1.block _ (Nat.lt_succ_self _)).trans HBX.out.2
  have k1 : w1.cell? ⟨w.heap.size + 1, 0, none⟩ = some (.slice none 0 0) := cell_of_row _ _ 0 _ _ (0, 0) q1
  have k2 : w1.cell? ⟨w.heap.size + 1 + 1, 0, none⟩ = some (.slice none 0 0) := cell_of_row _ _ 0 _ _ (0, 0) q2
  have f1 : w1.frozen? ⟨w.heap.size + 1, 0, none⟩ = false := frozen_of_row _ _ 0 _ _ q1
  have f2 : w1.frozen? ⟨w.heap.size + 1 + 1, 0, none⟩ = false := frozen_of_row _ _ 0 _ _ q2
  have bw1 : Below w.heap.size w w1 := HB3.out.trans (b1.mono (by omega))
  have q3 := Lib.hid (box_set (k := 0) (box_far (g' := w.heap.size + 1 + 1) (k := 0) q1 (by omega) (.slice A' n c')) (.slice A' n c'))
  have HO := Lib.hid (((hown.far_set (g := w.heap.size + 1 + 1) (k := 0) (Nat.lt_succ_self _) (.slice A' n c')).far_set (g := w.heap.size + 1) (k := 0) (by omega) (.slice A' n c')).lower (B' := w.heap.size) (by omega))
  clear hown b1 q1 q2
  go_wp2_with fail
  refine bodyPost_ret (v := .agg #[.slice A' n c']) (results_cell_row rfl _ _ (w.heap.size + 1) 33 _ (0, 0) _ rfl q3.out Try.underlying33 rfl (by kernel_rfl)) rfl ⟨A', c', rfl, HO.out, ?_⟩
  exact (bw1.setCell (by show w.heap.size ≤ w.heap.size + 1 + 1; omega) _).setCell (by show w.heap.size ≤ w.heap.size + 1; omega) _
theorem toBench_any (zs : List ByteArray) (s : ByteArray) (A : Option Addr) (n c : Nat) (w : World) (hn : n ≤ 1048576) (h : StrsIn w A n c zs) :
    Calls Try.prog 20 #[.agg #[.slice A n c, .string s]] w fun e w' => ∃ A' c', e = .returned (.agg #[.slice A' n c', .string s]) ∧ Own w' w.heap.size 9 (.slice A' n c') (zs.map Value.string) ∧ Below w.heap.size w w' := by
  have hbx := boxes3 w (.cells #[.slice A n c, .string s] 30) #[.slice none 0 0, .string ⟨#[]⟩] #[.slice none 0 0, .string ⟨#[]⟩] 35 35
  have hbf := boxes3_first w #[.slice A n c, .string s] 30 (.cells #[.slice none 0 0, .string ⟨#[]⟩] 35) (.cells #[.slice none 0 0, .string ⟨#[]⟩] 35)
  have hz3 : (((w.alloc (.cells #[.slice A n c, .string s] 30)).alloc (.cells #[.slice none 0 0, .string ⟨#[]⟩] 35)).alloc (.cells #[.slice none 0 0, .string ⟨#[]⟩] 35)).heap.size = w.heap.size + 1 + 1 + 1 := by simp
  have hb3 : Below w.heap.size w (((w.alloc (.cells #[.slice A n c, .string s] 30)).alloc (.cells #[.slice none 0 0, .string ⟨#[]⟩] 35)).alloc (.cells #[.slice none 0 0, .string ⟨#[]⟩] 35)) := (((Below.refl _ w).alloc (Nat.le_refl _) _).alloc (by simp) _).alloc (by simp; omega) _
  have hcall := toSubst_any zs A n c _ hn (h.later hb3)
  rw [hz3] at hcall
  have HC := Lib.hid hcall; have HBX := Lib.hid hbx; have HBF := Lib.hid hbf; have HB3 := Lib.hid hb3; have HZ3 := Lib.hid hz3
  clear hcall hbx hbf hb3 h hz3
  go_enter Try.func20, Try.ntmps20
  go_wp2_with fail
  refine HC.out.mono ?_
  rintro e w1 ⟨A', c', rfl, hown, b1⟩
  have hs1 := b1.size
  have q0 : w1.heap[w.heap.size]? = some (.cells #[.slice A n c, .string s] 30 (0, 0)) := (b1.block _ (by omega)).trans HBF.out
  have q1 : w1.heap[w.heap.size + 1]? = some (.cells #[.slice none 0 0, .string ⟨#[]⟩] 35 (0, 0)) := (b1.block _ (Nat.lt_succ_of_lt (Nat.lt_succ_self _))).trans HBX.out.1
  have q2 : w1.heap[w.heap.size + 1 + 1]? = some (.cells #[.slice none 0 0, .string ⟨#[]⟩] 35 (0, 0)) := (b1.block _ (Nat.lt_succ_self _)).trans HBX.out.2
  have k0 : w1.cell? ⟨w.heap.size, 1, none⟩ = some (.string s) := cell_of_row _ _ 1 _ _ (0, 0) q0
  have k1 : w1.cell? ⟨w.heap.size + 1, 0, none⟩ = some (.slice none 0 0) := cell_of_row _ _ 0 _ _ (0, 0) q1
  have k1b : w1.cell? ⟨w.heap.size + 1, 1, none⟩ = some (.string ⟨#[]⟩) := cell_of_row _ _ 1 _ _ (0, 0) q1
  have k2 : w1.cell? ⟨w.heap.size + 1 + 1, 0, none⟩ = some (.slice none 0 0) := cell_of_row _ _ 0 _ _ (0, 0) q2
  have k2b : w1.cell? ⟨w.heap.size + 1 + 1, 1, none⟩ = some (.string ⟨#[]⟩) := cell_of_row _ _ 1 _ _ (0, 0) q2
  have f1 : w1.frozen? ⟨w.heap.size + 1, 0, none⟩ = false := frozen_of_row _ _ 0 _ _ q1
  have f1b : w1.frozen? ⟨w.heap.size + 1, 1, none⟩ = false := frozen_of_row _ _ 1 _ _ q1
  have f2 : w1.frozen? ⟨w.heap.size + 1 + 1, 0, none⟩ = false := frozen_of_row _ _ 0 _ _ q2
  have f2b : w1.frozen? ⟨w.heap.size + 1 + 1, 1, none⟩ = false := frozen_of_row _ _ 1 _ _ q2
  have bw1 : Below w.heap.size w w1 := HB3.out.trans (b1.mono (by omega))
  have HOWN := Lib.hid hown
  have HQ1 := Lib.hid q1
  clear hown b1 q0 q1 q2
  go_wp2_with fail
  have e1 : w.heap.size + 1 < w.heap.size + 1 + 1 + 1 := by omega
  have e2 : w.heap.size + 1 + 1 < w.heap.size + 1 + 1 + 1 := by omega
  have q3 := box_set (k := 1) (box_set (k := 0) (box_far (g' := w.heap.size + 1 + 1) (k := 1) (box_far (g' := w.heap.size + 1 + 1) (k := 0) HQ1.out (by omega) (.slice A' n c')) (by omega) (.string s)) (.slice A' n c')) (.string s)
  have ho := ((((HOWN.out.far_set (g := w.heap.size + 1 + 1) (k := 0) e2 (.slice A' n c')).far_set (g := w.heap.size + 1 + 1) (k := 1) e2 (.string s)).far_set (g := w.heap.size + 1) (k := 0) e1 (.slice A' n c')).far_set (g := w.heap.size + 1) (k := 1) e1 (.string s)).lower (B' := w.heap.size) (by omega)
  refine bodyPost_ret (v := .agg #[.slice A' n c', .string s]) (results_cell_row rfl _ _ (w.heap.size + 1) 35 _ (0, 0) _ rfl q3 Try.underlying35 rfl (by kernel_rfl)) rfl ⟨A', c', rfl, ho, ?_⟩
  have g1 : w.heap.size ≤ w.heap.size + 1 := by omega
  have g2 : w.heap.size ≤ w.heap.size + 1 + 1 := by omega
  exact (((bw1.setCell g2 _).setCell g2 _).setCell g1 _).setCell g1 _
theorem eqSubst_same (zs : List ByteArray) (A A' : Option Addr) (c c' B B' : Nat) (w : World) (hB : B ≤ w.heap.size) (hB' : B' ≤ w.heap.size) (hx : Rds w B A (zs.map Value.string)) (hy : Rds w B' A' (zs.map Value.string)) (hn : zs.length ≤ 4294967296) :
    Calls Try.prog 49 #[.agg #[.slice A zs.length c], .agg #[.slice A' zs.length c']] w fun e w' => e = .returned (.bool true) ∧ Below w.heap.size w w' := by
  have b2 : Below w.heap.size w ((w.alloc (.cells #[.slice A zs.length c] 33)).alloc (.cells #[.slice A' zs.length c'] 33)) := ((Below.refl _ w).alloc (Nat.le_refl _) _).alloc (by simp) _
  have hc := eqStringS_same zs A A' c c' B B' _ (hx.below b2 hB) (hy.below b2 hB') hn
  have HC := Lib.hid hc; have HB2 := Lib.hid b2
  clear hc b2 hx hy
  go_enter Try.func49, Try.ntmps49
  go_wp2_with fail
  refine HC.out.mono ?_
  rintro e w1 ⟨rfl, d1⟩
  go_wp2_with fail
  go_ret
  exact ⟨rfl, HB2.out.trans d1.below⟩
theorem eqBench_same (zs : List ByteArray) (s : ByteArray) (A A' : Option Addr) (c c' B B' : Nat) (w : World) (hB : B ≤ w.heap.size) (hB' : B' ≤ w.heap.size) (hx : Rds w B A (zs.map Value.string)) (hy : Rds w B' A' (zs.map Value.string)) (hn : zs.length ≤ 4294967296) :
    Calls Try.prog 22 #[.agg #[.slice A zs.length c, .string s], .agg #[.slice A' zs.length c', .string s]] w fun e w' => e = .returned (.bool true) ∧ Below w.heap.size w w' := by
  have b2 : Below w.heap.size w ((w.alloc (.cells #[.slice A zs.length c, .string s] 35)).alloc (.cells #[.slice A' zs.length c', .string s] 35)) := ((Below.refl _ w).alloc (Nat.le_refl _) _).alloc (by simp) _
  have hz2 : ((w.alloc (.cells #[.slice A zs.length c, .string s] 35)).alloc (.cells #[.slice A' zs.length c', .string s] 35)).heap.size = w.heap.size + 1 + 1 := by simp
  have hc := eqSubst_same zs A A' c c' B B' _ (by rw [hz2]; omega) (by rw [hz2]; omega) (hx.below b2 hB) (hy.below b2 hB') hn
  have h0 := (heap_alloc_old (w.alloc (.cells #[.slice A zs.length c, .string s] 35)) (.cells #[.slice A' zs.length c', .string s] 35) (by simp)).trans (heap_alloc_new w (.cells #[.slice A zs.length c, .string s] 35))
  have h1 := heap_alloc_new (w.alloc (.cells #[.slice A zs.length c, .string s] 35)) (.cells #[.slice A' zs.length c', .string s] 35)
  rw [show (w.alloc (.cells #[.slice A zs.length c, .string s] 35)).heap.size = w.heap.size + 1 from by simp] at h1
  rw [hz2] at hc
  have hee : (s.toList == s.toList) = true := by simp
  have HC := Lib.hid hc; have HB2 := Lib.hid b2; have H0 := Lib.hid h0; have H1 := Lib.hid h1
  clear hc b2 hx hy h0 h1 hz2
  go_enter Try.func22, Try.ntmps22
  go_wp2_with fail
  refine HC.out.mono ?_
  rintro e w1 ⟨rfl, b1⟩
  have q0 := (b1.block w.heap.size (by omega)).trans H0.out
  have q1 := (b1.block (w.heap.size + 1) (by omega)).trans H1.out
  have k0 : w1.cell? ⟨w.heap.size, 1, none⟩ = some (.string s) := cell_of_row _ _ 1 _ _ (0, 0) q0
  have k1 : w1.cell? ⟨w.heap.size + 1, 1, none⟩ = some (.string s) := cell_of_row _ _ 1 _ _ (0, 0) q1
  clear q0 q1
  have bw : Below w.heap.size w w1 := HB2.out.trans (b1.mono (by omega))
  clear b1
  go_wp2_with fail
  go_ret
  exact ⟨rfl, bw⟩
end Go.Proofs.Ytfgifbkkclkhiaa
