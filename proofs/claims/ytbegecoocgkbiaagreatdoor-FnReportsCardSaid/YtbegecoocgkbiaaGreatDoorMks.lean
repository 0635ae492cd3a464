/- MakeSubst and MakeGold: a substitution, a golden number of small parts. No condition but the bounds. -/
import Derived.Test.YtbegecoocgkbiaaGreatDoorDrx
import Derived.Test.YtbegecoocgkbiaaGreatDoorNam
import Derived.Test.YtbegecoocgkbiaaGreatDoorM16
import Derived.Test.YtbegecoocgkbiaaGreatDoorDtm
import Derived.Deep.RegionHeld3
import Derived.Deep.DrawnRows
import Derived.Deep.RegionHeldLaw
import Derived.Deep.RegionLaw
namespace Go.Proofs.YtbegecoocgkbiaaGreatDoor
open Go.RowKit
set_option linter.unusedVariables false

def sevenN : List ByteArray := [{ data := #[102, 105, 98, 111, 110, 97, 99, 99, 105] }, { data := #[116, 104, 117, 101] }, { data := #[100, 111, 117, 98, 108, 105, 110, 103] }, { data := #[116, 114, 105, 98, 111, 110, 97, 99, 99, 105] }, { data := #[115, 105, 108, 118, 101, 114] }, { data := #[115, 113, 117, 97, 114, 101, 102, 114, 101, 101] }, { data := #[114, 117, 100, 105, 110] }]
theorem seven_ok : ∀ s ∈ sevenN, suOk (psL (nmT s)) = true := by decide +kernel
theorem lets_img {n : Nat} {l : List UInt8} (hn : n ≤ 4) (h : lets n l) (h1 : 1 ≤ l.length) (h2 : l.length ≤ 8) : imgOk n (strOf l) = true := by
  rw [imgOk, strOf_size, strOf_L, decide_eq_true (And.intro h1 h2), lets_isW hn h (by omega), Bool.true_and, Bool.true_and, winL, List.all_eq_true]
  intro d hd
  have := h d hd
  simp; omega
theorem Own.gr {w w' : World} {B p : Nat} {E : TypeId} {v : Value} {xs : List Value} (h : Own w B E v xs) (hg : w.grownBy w' (some p)) (hp : p < B) : Own w' B E v xs := by
  refine World.ownsRow.kept h hg ?_
  cases hv : v.ownBlock with
  | none => exact .inl rfl
  | some q =>
    right; intro he
    have h1 := (World.ownsRow.lt h q hv).1
    have : q = p := by simpa using he
    omega
theorem own_far {w w' : World} {B q : Nat} {E : TypeId} {v : Value} {xs : List Value} (h : Own w B E v xs) (hg : w.grownBy w' v.ownBlock) (hq : q < B) (hs : q < w.heap.size) : w'.heap[q]? = w.heap[q]? := by
  refine hg.block q hs fun e => ?_
  cases hv : v.ownBlock with
  | none => rw [hv] at e; cases e
  | some r =>
    have h1 := (World.ownsRow.lt h r hv).1
    rw [hv] at e
    injection e with e
    omega
theorem mk_one (w : World) (v : Value) (E : TypeId) : ∀ (j : Nat) (u : Value), [v][j]? = some u → (w.alloc (.cells #[v] E)).cell? ((⟨w.heap.size, 0, none⟩ : Addr).add j) = some u := fun j u hu => by
  match j, hu with
  | 0, hu => simp at hu; subst hu; simp [Addr.add]
set_option maxHeartbeats 400000 in
theorem l01Str_any (p B g k c2 : Nat) (A : Option Addr) (n c : Nat) (l : List UInt8) (xs : List ByteArray) (w : World) (hk : xs.length = k) (h0 : 1 ≤ k) (hm : k ≤ 256) (hl : l.length = n) (hn : n ≤ 1048576) (hc : CurAt w p A n c) (hrd : Rds w B A (byV l)) (hB : B ≤ p)
    (hx : ∀ w', w.grownBy w' (some p) → ∀ j s, xs[j]? = some s → w'.cell? ⟨g, j, none⟩ = some (.string s)) :
    Calls Tryz.prog 140 #[.pointer (some ⟨p, 0, none⟩), .slice (some ⟨g, 0, none⟩) k c2] w fun e w' => ∃ s, s ∈ xs ∧ e = .returned (.string s) ∧ CurAt w' p A n c ∧ Below p w w' ∧ w.grownBy w' (some p) := by
  have h1 := l01Below_any p B A n c k l w h0 hm hl hn hc hrd hB
  have H1 := Lib.hid h1; have HX := Lib.hid hx
  clear h1 hx hc hrd hl
  go_enter Tryz.func140, Tryz.ntmps140
  go_wp2_with fail
  refine H1.out.mono ?_
  rintro e w1 ⟨j, hj, rfl, c1, b1, g1⟩
  obtain ⟨s, hs⟩ := some_of_lt (l := xs) (k := j) (by omega)
  have hcell := HX.out w1 g1 j s hs
  have hmem := List.mem_of_getElem? hs
  have C1 := Lib.hid c1; have HM := Lib.hid hmem
  clear hs c1 hmem hk
  go_wp2_with fail
  go_ret
  exact ⟨s, HM.out, rfl, C1.out, b1, g1⟩
set_option maxHeartbeats 400000 in
theorem l14Draw_any (p B : Nat) (A : Option Addr) (n c : Nat) (l : List UInt8) (w : World) (hl : l.length = n) (hn : n ≤ 1048576) (hc : CurAt w p A n c) (hrd : Rds w B A (byV l)) (hB : B ≤ p) :
    Calls Tryz.prog 103 #[.pointer (some ⟨p, 0, none⟩)] w fun e w' => ∃ a b : Int, (-20 ≤ a ∧ a ≤ 20) ∧ (-20 ≤ b ∧ b ≤ 20) ∧ e = .returned (.agg #[.int .i64 a, .int .i64 b]) ∧ Below p w w' := by
  have hp : p < w.heap.size := hc.1
  have bA : Below w.heap.size w (w.alloc (.cells #[.int .i64 0, .int .i64 0] 41)) := (Below.refl _ _).alloc (Nat.le_refl _) _
  have h0 := heap_alloc_new w (.cells #[.int .i64 0, .int .i64 0] 41)
  have z0 : (w.alloc (.cells #[.int .i64 0, .int .i64 0] 41)).heap.size = w.heap.size + 1 := by simp
  have hbl := fun v hcv hrv => l01Below_any p B A n c 41 l v (by decide) (by decide) hl hn hcv hrv hB
  have HBL := Lib.hid hbl; have HC := Lib.hid (hc.below bA); have HR := Lib.hid (hrd.below bA (by omega)); have H0 := Lib.hid h0; have BA := Lib.hid bA; have Z0 := Lib.hid z0
  clear hbl hc hrd h0 bA hl z0
  go_enter Tryz.func103, Tryz.ntmps103
  go_wp2_with fail
  refine (HBL.out _ HC.out HR.out).mono ?_
  rintro e w1 ⟨x, hx, rfl, c1, b1, g1⟩
  have C1 := Lib.hid c1
  clear c1
  go_wp2_with fail
  refine (HBL.out _ C1.out (HR.out.below b1 hB)).mono ?_
  rintro e w2 ⟨y, hy, rfl, c2, b2, g2⟩
  have g12 := g1.trans g2
  have q2 := (g12.block w.heap.size (by rw [Z0.out]; omega) (fun e => by injection e with e; omega)).trans H0.out
  have c0 := cell_of_row _ _ 0 _ _ (0, 0) q2
  have c0b := cell_of_row _ _ 1 _ _ (0, 0) q2
  have f0 := frozen_of_row _ _ 0 _ _ q2
  have f0b := frozen_of_row _ _ 1 _ _ q2
  have bw : Below p w w2 := (BA.out.mono (Nat.le_of_lt hp)).trans (b1.trans b2)
  have HQ := Lib.hid q2
  clear q2 c2 g12 g1 g2 b1 b2
  go_wp2_with fail
  have q3 := box_set (k := 1) (box_set (k := 0) HQ.out (.int .i64 ((x : Int) - 20))) (.int .i64 ((y : Int) - 20))
  refine bodyPost_ret (v := .agg #[.int .i64 ((x : Int) - 20), .int .i64 ((y : Int) - 20)]) (results_cell_row rfl _ _ w.heap.size 41 _ (0, 0) _ rfl q3 Tryz.underlying41 rfl (by kernel_rfl)) rfl ⟨_, _, ⟨by omega, by omega⟩, ⟨by omega, by omega⟩, rfl, ?_⟩
  exact (bw.setCell (Nat.le_of_lt hp) _).setCell (Nat.le_of_lt hp) _
set_option maxHeartbeats 400000 in
theorem makeGold_any (A : Option Addr) (n c B m : Nat) (l : List UInt8) (w : World) (hm : m ≤ 100000) (hl : l.length = n) (hn : n ≤ 1048576) (hrd : Rds w B A (byV l)) (hB : B ≤ w.heap.size) :
    Calls Tryz.prog 50 #[.slice A n c, .int .i64 m] w fun e w' => ∃ a b : Int, (-20 ≤ a ∧ a ≤ 20) ∧ (-20 ≤ b ∧ b ≤ 20) ∧ e = .returned (.agg #[.int .i64 a, .int .i64 b]) ∧ Below w.heap.size w w' := by
  have bA : Below w.heap.size w (w.alloc (.cells #[.int .i64 0, .int .i64 0] 41)) := (Below.refl _ _).alloc (Nat.le_refl _) _
  have h0 := heap_alloc_new w (.cells #[.int .i64 0, .int .i64 0] 41)
  have z0 : (w.alloc (.cells #[.int .i64 0, .int .i64 0] 41)).heap.size = w.heap.size + 1 := by simp
  have hnw := l31New_any A n c B m l (w.alloc (.cells #[.int .i64 0, .int .i64 0] 41)) hm hl hn (hrd.below bA hB) (by omega)
  have hd := fun v hcv hrv => l14Draw_any (w.heap.size + 1) B A n c l v hl hn hcv hrv (by omega)
  rw [z0] at hnw
  have HN := Lib.hid hnw; have HD := Lib.hid hd; have HR := Lib.hid (hrd.below bA hB); have H0 := Lib.hid h0; have BA := Lib.hid bA; have Z0 := Lib.hid z0
  clear hnw hd hrd h0 bA hl z0
  go_enter Tryz.func50, Tryz.ntmps50
  go_wp2_with fail
  refine HN.out.mono ?_
  rintro e w1 ⟨rfl, c1, b1⟩
  have C1 := Lib.hid c1
  clear c1
  go_wp2_with fail
  refine (HD.out _ C1.out (HR.out.below b1 (by omega))).mono ?_
  rintro e w2 ⟨x, y, hx, hy, rfl, b2⟩
  have b12 := b1.trans b2
  have q2 := (b12.block w.heap.size (by omega)).trans H0.out
  have c0 := cell_of_row _ _ 0 _ _ (0, 0) q2
  have c0b := cell_of_row _ _ 1 _ _ (0, 0) q2
  have f0 := frozen_of_row _ _ 0 _ _ q2
  have f0b := frozen_of_row _ _ 1 _ _ q2
  have bw : Below w.heap.size w w2 := BA.out.trans (b12.mono (by omega))
  have HQ := Lib.hid q2
  clear q2 b12 b1 b2
  go_wp2_with fail
  have q3 := box_set (k := 1) (box_set (k := 0) HQ.out (.int .i64 x)) (.int .i64 y)
  refine bodyPost_ret (v := .agg #[.int .i64 x, .int .i64 y]) (results_cell_row rfl _ _ w.heap.size 41 _ (0, 0) _ rfl q3 Tryz.underlying41 rfl (by kernel_rfl)) rfl ⟨_, _, hx, hy, rfl, ?_⟩
  exact (bw.setCell (Nat.le_refl _) _).setCell (Nat.le_refl _) _
set_option maxRecDepth 4000 in
set_option maxHeartbeats 20000000 in
theorem l03Draw_any (p B : Nat) (A : Option Addr) (n c : Nat) (l : List UInt8) (w : World) (hl : l.length = n) (hn : n ≤ 1048576) (hc : CurAt w p A n c) (hrd : Rds w B A (byV l)) (hB : B ≤ p) :
    Calls Tryz.prog 101 #[.pointer (some ⟨p, 0, none⟩)] w fun e w' => ∃ (zs : List ByteArray) (A' : Option Addr) (k c' : Nat), zs.length = k ∧ suOk zs = true ∧ e = .returned (.agg #[.slice A' k c']) ∧ Own w' w.heap.size 9 (.slice A' k c') (zs.map Value.string) ∧ Below p w w' := by
  have hp : p < w.heap.size := hc.1
  have bA : Below w.heap.size w (w.alloc (.cells #[.slice none 0 0] 25)) := (Below.refl _ _).alloc (Nat.le_refl _) _
  have h0 := heap_alloc_new w (.cells #[.slice none 0 0] 25)
  have z0 : (w.alloc (.cells #[.slice none 0 0] 25)).heap.size = w.heap.size + 1 := by simp
  have hon := fun v hcv hrv => l01Once_any p B A n c 2 l v (by decide) (by decide) hl hn hcv hrv hB
  have hst := fun g c2 v hcv hrv hx => l01Str_any p B g 7 c2 A n c l sevenN v rfl (by decide) (by decide) hl hn hcv hrv hB hx
  have hbl := fun v m h1 h2 hcv hrv => l01Below_any p B A n c m l v h1 h2 hl hn hcv hrv hB
  have hwd : ∀ (v : World) (y k : Nat), y ≤ 900 → 1 ≤ k → k ≤ 4 → CurAt v p A n c → Rds v B A (byV l) → Calls Tryz.prog 129 #[.pointer (some ⟨p, 0, none⟩), .int .i64 (IntKind.i64.wrap (1 + (y : Int))), .int .i64 k] v fun e w' => ∃ x : List UInt8, x.length = 1 + y ∧ lets k x ∧ e = .returned (.string (strOf x)) ∧ CurAt w' p A n c ∧ Below p v w' ∧ v.grownBy w' (some p) := fun v y k h1 h2 h3 hcv hrv => by
    have h := l02Word_any p B A n c (1 + y) k l v (by omega) h2 h3 hl hn hcv hrv hB
    rw [show IntKind.i64.wrap (1 + (y : Int)) = ((1 + y : Nat) : Int) from by rw [IntWalk.i64_in _ (by omega)]; omega]
    exact h
  have HON := Lib.hid hon; have HST := Lib.hid hst; have HBL := Lib.hid hbl; have HWD := Lib.hid hwd; have HC := Lib.hid (hc.below bA); have HR := Lib.hid hrd; have H0 := Lib.hid h0; have BA := Lib.hid bA; have Z0 := Lib.hid z0
  have HS7 := Lib.hid seven_ok
  clear hon hst hbl hwd hc hrd h0 bA hl z0
  go_enter Tryz.func101, Tryz.ntmps101
  go_wp2_with fail
  refine (HON.out _ HC.out (HR.out.below BA.out (by omega))).mono ?_
  rintro e w1 ⟨b, rfl, c1, b1, g1⟩
  have bw1 : Below p w w1 := (BA.out.mono (Nat.le_of_lt hp)).trans b1
  have q1 := (g1.block w.heap.size (by rw [Z0.out]; omega) (fun e => by injection e with e; omega)).trans H0.out
  have z1 := g1.size
  rw [Z0.out] at z1
  have C1 := Lib.hid c1; have Q1 := Lib.hid q1
  clear c1 b1 g1 q1
  cases b with
  | true =>
    go_wp2_with fail
    have bB : Below w1.heap.size w1 (w1.alloc (.cells #[.string { data := #[102, 105, 98, 111, 110, 97, 99, 99, 105] }, .string { data := #[116, 104, 117, 101] }, .string { data := #[100, 111, 117, 98, 108, 105, 110, 103] }, .string { data := #[116, 114, 105, 98, 111, 110, 97, 99, 99, 105] }, .string { data := #[115, 105, 108, 118, 101, 114] }, .string { data := #[115, 113, 117, 97, 114, 101, 102, 114, 101, 101] }, .string { data := #[114, 117, 100, 105, 110] }] 9)) := (Below.refl _ _).alloc (Nat.le_refl _) _
    have hB1 := heap_alloc_new w1 (.cells #[.string { data := #[102, 105, 98, 111, 110, 97, 99, 99, 105] }, .string { data := #[116, 104, 117, 101] }, .string { data := #[100, 111, 117, 98, 108, 105, 110, 103] }, .string { data := #[116, 114, 105, 98, 111, 110, 97, 99, 99, 105] }, .string { data := #[115, 105, 108, 118, 101, 114] }, .string { data := #[115, 113, 117, 97, 114, 101, 102, 114, 101, 101] }, .string { data := #[114, 117, 100, 105, 110] }] 9)
    have zB : (w1.alloc (.cells #[.string { data := #[102, 105, 98, 111, 110, 97, 99, 99, 105] }, .string { data := #[116, 104, 117, 101] }, .string { data := #[100, 111, 117, 98, 108, 105, 110, 103] }, .string { data := #[116, 114, 105, 98, 111, 110, 97, 99, 99, 105] }, .string { data := #[115, 105, 108, 118, 101, 114] }, .string { data := #[115, 113, 117, 97, 114, 101, 102, 114, 101, 101] }, .string { data := #[114, 117, 100, 105, 110] }] 9)).heap.size = w1.heap.size + 1 := by simp
    generalize w1.alloc (.cells #[.string { data := #[102, 105, 98, 111, 110, 97, 99, 99, 105] }, .string { data := #[116, 104, 117, 101] }, .string { data := #[100, 111, 117, 98, 108, 105, 110, 103] }, .string { data := #[116, 114, 105, 98, 111, 110, 97, 99, 99, 105] }, .string { data := #[115, 105, 108, 118, 101, 114] }, .string { data := #[115, 113, 117, 97, 114, 101, 102, 114, 101, 101] }, .string { data := #[114, 117, 100, 105, 110] }] 9) = w2 at bB hB1 zB ⊢
    refine (HST.out w1.heap.size 7 w2 (C1.out.below bB) ((HR.out.below (bw1.mono hB) (Nat.le_refl _)).below bB (by omega)) ?_).mono ?_
    · intro w' hg j s hs
      have hq := (hg.block w1.heap.size (by omega) (fun e => by injection e with e; omega)).trans hB1
      match j, hs with
      | 0, hs => injection hs with hs; rw [← hs]; exact cell_of_row _ _ 0 _ _ (0, 0) hq
      | 1, hs => injection hs with hs; rw [← hs]; exact cell_of_row _ _ 1 _ _ (0, 0) hq
      | 2, hs => injection hs with hs; rw [← hs]; exact cell_of_row _ _ 2 _ _ (0, 0) hq
      | 3, hs => injection hs with hs; rw [← hs]; exact cell_of_row _ _ 3 _ _ (0, 0) hq
      | 4, hs => injection hs with hs; rw [← hs]; exact cell_of_row _ _ 4 _ _ (0, 0) hq
      | 5, hs => injection hs with hs; rw [← hs]; exact cell_of_row _ _ 5 _ _ (0, 0) hq
      | 6, hs => injection hs with hs; rw [← hs]; exact cell_of_row _ _ 6 _ _ (0, 0) hq
      | j + 7, hs => rw [List.getElem?_eq_none (by show 7 ≤ _; omega)] at hs; cases hs
    · rintro e w3 ⟨s, hsm, rfl, c3, b3, g3⟩
      have hsu := HS7.out s hsm
      obtain ⟨zs, hzs⟩ : ∃ zs, psL (nmT s) = zs := ⟨_, rfl⟩
      have hcl := sNamed_any s w3
      obtain ⟨ok, hok⟩ : ∃ ok, (psV (nmT s)).isSome = ok := ⟨_, rfl⟩
      rw [hzs, hok] at hcl
      rw [hzs] at hsu
      have q3 := (g3.block w.heap.size (by omega) (fun e => by injection e with e; omega)).trans ((bB.block w.heap.size (by omega)).trans Q1.out)
      have z3 := g3.size
      have bw3 : Below p w w3 := bw1.trans ((bB.mono (by omega)).trans b3)
      have HCL := Lib.hid hcl; have HSU := Lib.hid hsu; have Q3 := Lib.hid q3
      clear hcl hsu q3 g3 c3 b3 bB hB1 hzs hok hsm bw1 C1 Q1
      go_wp2_with fail
      refine HCL.out.mono ?_
      rintro e w4 ⟨A', c', rfl, o4, b4⟩
      obtain ⟨k, hk⟩ : ∃ k, zs.length = k := ⟨_, rfl⟩
      rw [hk] at o4 ⊢
      have q4 := (b4.block w.heap.size (by omega)).trans Q3.out
      have z4 := b4.size
      have bC : Below w4.heap.size w4 (w4.alloc (.cells #[.slice A' k c'] 25)) := (Below.refl _ _).alloc (Nat.le_refl _) _
      have q5 := (bC.block w.heap.size (by omega)).trans q4
      have c0 := cell_of_row _ _ 0 _ _ (0, 0) q5
      have f0 := frozen_of_row _ _ 0 _ _ q5
      have bw5 : Below p w (w4.alloc (.cells #[.slice A' k c'] 25)) := (bw3.trans (b4.mono (by omega))).trans (bC.mono (by omega))
      have o5 := o4.below bC
      have Q5 := Lib.hid q5; have O5 := Lib.hid o5; have HK := Lib.hid hk
      clear q4 q5 o4 o5 bC b4 hk
      go_wp2_with fail
      have q6 := box_set (k := 0) Q5.out (.slice A' k c')
      refine bodyPost_ret (v := .agg #[.slice A' k c']) (results_cell_row rfl _ _ w.heap.size 25 _ (0, 0) _ rfl q6 Tryz.underlying25 rfl (by kernel_rfl)) rfl ⟨zs, A', k, c', HK.out, HSU.out, rfl, ?_, ?_⟩
      · exact (O5.out.far_set (g := w.heap.size) (k := 0) (by omega) (.slice A' k c')).lower (by omega)
      · exact bw5.setCell (Nat.le_of_lt hp) _
  | false =>
    go_wp2_with fail
    refine (HBL.out _ 3 (by decide) (by decide) C1.out (HR.out.below (bw1.mono hB) (Nat.le_refl _))).mono ?_
    rintro e w2 ⟨x, hx, rfl, c2, b2, g2⟩
    have q2 := (g2.block w.heap.size (by omega) (fun e => by injection e with e; omega)).trans Q1.out
    have z2 := g2.size
    have bw2 := bw1.trans b2
    have bC : Below w2.heap.size w2 (w2.alloc (.cells #[.slice none 0 0] 25)) := (Below.refl _ _).alloc (Nat.le_refl _) _
    have r2 := heap_alloc_new w2 (.cells #[.slice none 0 0] 25)
    have q3 := (bC.block w.heap.size (by omega)).trans q2
    have c3 := c2.below bC
    have bw3 : Below p w (w2.alloc (.cells #[.slice none 0 0] 25)) := bw2.trans (bC.mono (by omega))
    have zC : (w2.alloc (.cells #[.slice none 0 0] 25)).heap.size = w2.heap.size + 1 := by simp
    have e1 : 1 + (x : Int) = ((1 + x : Nat) : Int) := by omega
    obtain ⟨m, hm⟩ : ∃ m, 1 + x = m := ⟨_, rfl⟩
    rw [hm] at e1
    have hm1 : 1 ≤ m := by omega
    have hm3 : m ≤ 3 := by omega
    have Q3 := Lib.hid q3; have R2 := Lib.hid r2; have C3 := Lib.hid c3; have BW3 := Lib.hid bw3; have ZC := Lib.hid zC
    clear c2 b2 g2 bC r2 q2 q3 c3 bw3 bw2 bw1 C1 Q1 hx hm zC
    go_wp2_with fail
    try rw [e1]
    go_loopw [7, 22] (fun i _ wr => ∃ (k c' : Nat) (A' : Option Addr) (zs : List ByteArray), k ≤ m ∧ i = .int .i64 k ∧ zs.length = k ∧ (∀ z ∈ zs, imgOk m z = true) ∧ wr.heap[w2.heap.size]? = some (.cells #[.slice A' k c'] 25 (0, 0)) ∧ Own wr (w2.heap.size + 1) 9 (.slice A' k c') (zs.map Value.string) ∧ wr.heap[w.heap.size]? = some (.cells #[.slice none 0 0] 25 (0, 0)) ∧ CurAt wr p A n c ∧ Below p w wr ∧ w2.heap.size + 1 ≤ wr.heap.size) (fun i _ _ => m - (intOf i).toNat)
    case atStart => exact ⟨0, 0, none, [], by omega, rfl, rfl, (fun z hz => by cases hz), R2.out, Own.nil, Q3.out, C3.out, BW3.out, by rw [ZC.out]; exact Nat.le_refl _⟩
    case round =>
      clear Q3 R2 C3 BW3
      obtain ⟨k, c', A', zs, hk, rfl, hzl, hzi, hbx, how, hq, hcu, hbe, hsz⟩ := hrel
      have HZL := Lib.hid hzl; have HZI := Lib.hid hzi; have HBX := Lib.hid hbx; have HOW := Lib.hid how; have HQ := Lib.hid hq; have HCU := Lib.hid hcu; have HBE := Lib.hid hbe
      clear hzl hzi hbx how hq hcu hbe
      have hcb : wr.cell? ⟨w2.heap.size, 0, none⟩ = some (.slice A' k c') := cell_of_row _ _ 0 _ _ (0, 0) HBX.out
      have hfb : wr.frozen? ⟨w2.heap.size, 0, none⟩ = false := frozen_of_row _ _ 0 _ _ HBX.out
      by_cases hlt : k < m
      · have hcu0 := HCU.out.dr (Dr.refl wr).drew
        have hr0 := HR.out.below ((HBE.out.drew).mono hB) (Nat.le_refl _)
        have how0 := HOW.out.dr (Dr.refl wr).drew
        have hbx0 : wr.drew.heap[w2.heap.size]? = some (.cells #[.slice A' k c'] 25 (0, 0)) := HBX.out
        have hq0 : wr.drew.heap[w.heap.size]? = some (.cells #[.slice none 0 0] 25 (0, 0)) := HQ.out
        have hbe0 := HBE.out.drew
        have hz0 : wr.drew.heap.size = wr.heap.size := by simp
        have CU0 := Lib.hid hcu0; have R0 := Lib.hid hr0; have OW0 := Lib.hid how0; have BX0 := Lib.hid hbx0; have Q0 := Lib.hid hq0; have BE0 := Lib.hid hbe0
        clear hcu0 hr0 how0 hbx0 hq0 hbe0
        have HKB : Hid (∀ v : World, v.heap[w2.heap.size]? = some (.cells #[.slice A' k c'] 25 (0, 0)) → v.cell? ⟨w2.heap.size, 0, none⟩ = some (.slice A' k c')) := Lib.hid fun v h => cell_of_row _ _ 0 _ _ (0, 0) h
        have hcb0 := HKB.out _ BX0.out
        have hzm : (zs.map Value.string).length = k := by rw [List.length_map, HZL.out]
        have HZM := Lib.hid hzm; clear hzm
        have hk1 : k + 1 < 4294967296 := by omega
        go_wp2_with fail
        go_region_law
          (first
            | (refine step_appR rfl (.tmp 28) (.tmp 35) 23 rfl _ 16 Tryz.underlying23 info_string rfl (w2.heap.size + 1) k HZM.out (by rfl) (((OW0.out.gr g3 (by omega)).gr g4 (by omega)).below ((Below.refl _ _).alloc (Nat.le_refl _) _)) ⟨w4.heap.size, 0, none⟩ 1 1 [.string (strOf x)] (by rfl) rfl (mk_one w4 _ _) (fun u hu => by simp at hu; subst hu; rfl) (k + 1) rfl hk1 (by decide) (by have := g3.size; have := g4.size; simp; omega) ?_; intro A5 cc w5 o5 g5 a5 n5; have Q5 := Lib.hid ((own_far (((OW0.out.gr g3 (by omega)).gr g4 (by omega)).below ((Below.refl _ _).alloc (Nat.le_refl _) _)) g5 (q := w2.heap.size) (by omega) (by have := g3.size; have := g4.size; simp; omega)).trans ((((Below.refl w4.heap.size w4).alloc (Nat.le_refl _) (.cells #[.string (strOf x)] 9)).block w2.heap.size (by have := g3.size; have := g4.size; omega)).trans BX3.out)); have f5 := frozen_of_row _ _ 0 _ _ Q5.out; have k5 := cell_of_row _ _ 0 _ _ (0, 0) Q5.out)
            | (go_simp; go_wp2_with (first | (go_at_call 128; refine (HBL.out _ 4 (by decide) (by decide) CU0.out R0.out).mono ?_; rintro e w3 ⟨y, hy, rfl, c3, b3, g3⟩; have BX1 := Lib.hid ((g3.block w2.heap.size (by omega) (fun e => by injection e with e; omega)).trans BX0.out); have k3 := HKB.out _ BX1.out) | (go_at_call 129; refine (HWD.out _ y m (by omega) hm1 (by omega) c3 (HR.out.below ((BE0.out.trans b3).mono hB) (Nat.le_refl _))).mono ?_; rintro e w4 ⟨x, hxl, hxt, rfl, c4, b4, g4⟩; have BX3 := Lib.hid ((g4.block w2.heap.size (by have := g3.size; omega) (fun e => by injection e with e; omega)).trans BX1.out); have k4 := HKB.out _ BX3.out; have k4a : (w4.alloc (.cells #[.string (strOf x)] 9)).cell? ⟨w2.heap.size, 0, none⟩ = some (.slice A' k c') := (((Below.refl w4.heap.size w4).alloc (Nat.le_refl _) _).cell (p := ⟨w2.heap.size, 0, none⟩) (by show w2.heap.size < w4.heap.size; have := g3.size; have := g4.size; omega)).trans k4))))
        all_goals
          have s3 := g3.size
          have s4 := g4.size
          have hOA := ((OW0.out.gr g3 (by omega)).gr g4 (by omega)).below ((Below.refl w4.heap.size w4).alloc (Nat.le_refl _) (.cells #[.string (strOf x)] 9))
          have bAl := (Below.refl w4.heap.size w4).alloc (Nat.le_refl _) (.cells #[.string (strOf x)] 9)
          have zAl : (w4.alloc (.cells #[.string (strOf x)] 9)).heap.size = w4.heap.size + 1 := by simp
          have s5 := g5.size
          rw [zAl] at s5
          have hq5 := (own_far hOA g5 (q := w.heap.size) (by omega) (by omega)).trans ((bAl.block w.heap.size (by omega)).trans ((g4.block w.heap.size (by omega) (fun e => by injection e with e; omega)).trans ((g3.block w.heap.size (by omega) (fun e => by injection e with e; omega)).trans Q0.out)))
          have b45 : Below (w2.heap.size + 1) w4 w5 := below_grown (bAl.mono (by omega)) (by omega) hOA g5
          have c5 := c4.low (by omega) b45
          have be5 : Below p w w5 := ((BE0.out.trans b3).trans b4).trans (b45.mono (by omega))
          rw [show zs.map Value.string ++ [Value.string (strOf x)] = (zs ++ [strOf x]).map Value.string by rw [List.map_append]; rfl] at o5
          have hzl2 : (zs ++ [strOf x]).length = k + 1 := by rw [List.length_append, HZL.out]; rfl
          have hzi2 : ∀ z ∈ zs ++ [strOf x], imgOk m z = true := fun z hz => by
            rcases List.mem_append.1 hz with h | h
            · exact HZI.out z h
            · rw [List.mem_singleton.1 h]; exact lets_img (by omega) hxt (by omega) (by omega)
          have HB5 := Lib.hid (box_set (k := 0) Q5.out (.slice A5 (k + 1) cc))
          have HQ5 := Lib.hid (box_far (g' := w2.heap.size) (k := 0) hq5 (by omega) (.slice A5 (k + 1) cc))
          have HO5 := Lib.hid (o5.far_set (g := w2.heap.size) (k := 0) (by omega) (.slice A5 (k + 1) cc))
          have HBB := Lib.hid (be5.setCell (show p ≤ w2.heap.size by omega) (p := ⟨w2.heap.size, 0, none⟩) (.slice A5 (k + 1) cc))
          have HC5 := Lib.hid (c5.low (B := p + 1) (by omega) ((Below.refl (p + 1) w5).setCell (show p + 1 ≤ w2.heap.size by omega) (p := ⟨w2.heap.size, 0, none⟩) (.slice A5 (k + 1) cc)))
          have HL2 := Lib.hid hzl2; have HI2 := Lib.hid hzi2
          clear hOA bAl hq5 b45 c5 be5 o5 hzl2 hzi2 g5 a5 n5 f5 k5 k4 k4a k3 c4 b4 g4 c3 b3 g3
          go_wp2_with fail
          go_roundw
          case rel => exact ⟨k + 1, cc, A5, zs ++ [strOf x], by omega, by go_num, HL2.out, HI2.out, HB5.out, HO5.out, HQ5.out, HC5.out, HBB.out, by rw [World.size_setCell]; omega⟩
          case measure => simp [intOf]; omega
      · have hkm : k = m := by omega
        subst hkm
        have hq0 := cell_of_row _ _ 0 _ _ (0, 0) HQ.out
        have fq0 := frozen_of_row _ _ 0 _ _ HQ.out
        go_wp2_with fail
        trace_state
        have q6 := box_set (k := 0) HQ.out (.slice A' k c')
        refine bodyPost_ret (v := .agg #[.slice A' k c']) (results_cell_row rfl _ _ w.heap.size 25 _ (0, 0) _ rfl q6 Tryz.underlying25 rfl (by kernel_rfl)) rfl ⟨zs, A', k, c', HZL.out, ?_, rfl, ?_, ?_⟩
        · rw [suOk, Bool.and_eq_true, List.all_eq_true, decide_eq_true_eq, HZL.out]
          exact ⟨HZI.out, by omega⟩
        · exact (HOW.out.far_set (g := w.heap.size) (k := 0) (by omega) (.slice A' k c')).lower (by omega)
        · exact HBE.out.setCell (Nat.le_of_lt hp) _
set_option maxHeartbeats 400000 in
theorem makeSubst_any (A : Option Addr) (n c B m : Nat) (l : List UInt8) (w : World) (hm : m ≤ 100000) (hl : l.length = n) (hn : n ≤ 1048576) (hrd : Rds w B A (byV l)) (hB : B ≤ w.heap.size) :
    Calls Tryz.prog 45 #[.slice A n c, .int .i64 m] w fun e w' => ∃ (zs : List ByteArray) (A' : Option Addr) (k c' : Nat), zs.length = k ∧ suOk zs = true ∧ e = .returned (.agg #[.slice A' k c']) ∧ Own w' w.heap.size 9 (.slice A' k c') (zs.map Value.string) ∧ Below w.heap.size w w' := by
  have bA : Below w.heap.size w (w.alloc (.cells #[.slice none 0 0] 25)) := (Below.refl _ _).alloc (Nat.le_refl _) _
  have h0 := heap_alloc_new w (.cells #[.slice none 0 0] 25)
  have z0 : (w.alloc (.cells #[.slice none 0 0] 25)).heap.size = w.heap.size + 1 := by simp
  have hnw := l31New_any A n c B m l (w.alloc (.cells #[.slice none 0 0] 25)) hm hl hn (hrd.below bA hB) (by omega)
  have hd := fun v hcv hrv => l03Draw_any (w.heap.size + 1) B A n c l v hl hn hcv hrv (by omega)
  rw [z0] at hnw
  have HN := Lib.hid hnw; have HD := Lib.hid hd; have HR := Lib.hid (hrd.below bA hB); have H0 := Lib.hid h0; have BA := Lib.hid bA; have Z0 := Lib.hid z0
  clear hnw hd hrd h0 bA hl z0
  go_enter Tryz.func45, Tryz.ntmps45
  go_wp2_with fail
  refine HN.out.mono ?_
  rintro e w1 ⟨rfl, c1, b1⟩
  have hc1 := c1.1
  have C1 := Lib.hid c1
  clear c1
  go_wp2_with fail
  refine (HD.out _ C1.out (HR.out.below b1 (by omega))).mono ?_
  rintro e w2 ⟨zs, A', k, c', hzk, hsu, rfl, o2, b2⟩
  have b12 := b1.trans b2
  have q2 := (b12.block w.heap.size (by omega)).trans H0.out
  have c0 := cell_of_row _ _ 0 _ _ (0, 0) q2
  have f0 := frozen_of_row _ _ 0 _ _ q2
  have bw : Below w.heap.size w w2 := BA.out.trans (b12.mono (by omega))
  have HQ := Lib.hid q2; have HZK := Lib.hid hzk; have HSU := Lib.hid hsu; have O2 := Lib.hid o2
  clear q2 b12 b1 b2 hzk hsu o2
  go_wp2_with fail
  have q3 := box_set (k := 0) HQ.out (.slice A' k c')
  refine bodyPost_ret (v := .agg #[.slice A' k c']) (results_cell_row rfl _ _ w.heap.size 25 _ (0, 0) _ rfl q3 Tryz.underlying25 rfl (by kernel_rfl)) rfl ⟨zs, A', k, c', HZK.out, HSU.out, rfl, ?_, ?_⟩
  · exact (O2.out.far_set (g := w.heap.size) (k := 0) (by omega) (.slice A' k c')).lower (by omega)
  · exact bw.setCell (Nat.le_refl _) _
end Go.Proofs.YtbegecoocgkbiaaGreatDoor
