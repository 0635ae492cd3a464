/- GoldLine, both. Asks the shelf's text. No condition. -/
import Derived.Test.YtbegecoocgkbiaaGreatDoorGold
import Derived.Test.YtbegecoocgkbiaaGreatDoorFnm
import Derived.Lib.QuietBelow
namespace Go.Proofs.YtbegecoocgkbiaaGreatDoor
open Go.RowKit Go.Sort
set_option linter.unusedVariables false

def inG (a : Int) : Prop := -1000000 ≤ a ∧ a ≤ 1000000
instance (a : Int) : Decidable (inG a) := by unfold inG; infer_instance
def gok (a b : Int) : Bool := decide (inG a) && decide (inG b)
theorem mul_bd {a b m : Int} (h1 : -m ≤ a) (h2 : a ≤ m) (h3 : -m ≤ b) (h4 : b ≤ m) : -(m * m) ≤ a * b ∧ a * b ≤ m * m := by
  obtain ⟨k, rfl⟩ : ∃ k : Nat, m = k := ⟨m.toNat, by omega⟩
  have ha : a.natAbs ≤ k := by omega
  have hb : b.natAbs ≤ k := by omega
  have h := Nat.mul_le_mul ha hb
  rw [← Int.natAbs_mul] at h
  have : ((k * k : Nat) : Int) = (k : Int) * k := by simp
  omega
def nrm (a b : Int) : Int := a * a + a * b - b * b
theorem nrm_bd {a b : Int} (ha : inG a) (hb : inG b) : -4000000000000 ≤ nrm a b ∧ nrm a b ≤ 4000000000000 := by
  have h1 := mul_bd ha.1 ha.2 ha.1 ha.2
  have h2 := mul_bd ha.1 ha.2 hb.1 hb.2
  have h3 := mul_bd hb.1 hb.2 hb.1 hb.2
  unfold nrm; omega
theorem iGok_yes (a b : Int) (ha : inG a) (hb : inG b) (w : World) :
    Calls Tryz.prog 104 #[.agg #[.int .i64 a, .int .i64 b]] w fun e w' => e = .returned (.bool true) ∧ Below w.heap.size w w' := by
  have h1 := fun w => within_yes a (-1000000) 1000000 ha w
  have h2 := fun w => within_yes b (-1000000) 1000000 hb w
  have H1 := Lib.hid h1; have H2 := Lib.hid h2
  clear h1 h2 ha hb
  go_enter Tryz.func104, Tryz.ntmps104
  go_wp2_with (first
    | (go_at_call 61; with_reducible refine (H1.out _).mono ?_; rintro e w1 ⟨rfl, rfl⟩)
    | (go_at_call 61; with_reducible refine (H2.out _).mono ?_; rintro e w1 ⟨rfl, rfl⟩))
  go_ret
  exact ⟨rfl, (Below.refl _ _).alloc (Nat.le_refl _) _⟩
theorem iGok_no (a b : Int) (h : ¬ (inG a ∧ inG b)) (w : World) :
    Calls Tryz.prog 104 #[.agg #[.int .i64 a, .int .i64 b]] w fun e w' => e = .returned (.bool false) ∧ Below w.heap.size w w' := by
  by_cases ha : inG a
  · have hb : ¬ inG b := fun hb => h ⟨ha, hb⟩
    have h1 := fun w => within_yes a (-1000000) 1000000 ha w
    have h2 := fun w => within_no b (-1000000) 1000000 hb w
    have H1 := Lib.hid h1; have H2 := Lib.hid h2
    clear h1 h2 ha hb h
    go_enter Tryz.func104, Tryz.ntmps104
    go_wp2_with (first
      | (go_at_call 61; with_reducible refine (H1.out _).mono ?_; rintro e w1 ⟨rfl, rfl⟩)
      | (go_at_call 61; with_reducible refine (H2.out _).mono ?_; rintro e w1 ⟨rfl, rfl⟩))
    go_ret
    exact ⟨rfl, (Below.refl _ _).alloc (Nat.le_refl _) _⟩
  · have h1 := fun w => within_no a (-1000000) 1000000 ha w
    have H1 := Lib.hid h1
    clear h1 ha h
    go_enter Tryz.func104, Tryz.ntmps104
    go_wp2_with (go_at_call 61; with_reducible refine (H1.out _).mono ?_; rintro e w1 ⟨rfl, rfl⟩)
    go_ret
    exact ⟨rfl, (Below.refl _ _).alloc (Nat.le_refl _) _⟩
theorem iNorm_any (a b : Int) (ha : inG a) (hb : inG b) (w : World) :
    Calls Tryz.prog 105 #[.agg #[.int .i64 a, .int .i64 b]] w fun e w' => e = .returned (.int .i64 (nrm a b)) ∧ Below w.heap.size w w' := by
  have h1 := mul_bd ha.1 ha.2 ha.1 ha.2
  have h2 := mul_bd ha.1 ha.2 hb.1 hb.2
  have h3 := mul_bd hb.1 hb.2 hb.1 hb.2
  obtain ⟨h11, h12⟩ := h1
  obtain ⟨h21, h22⟩ := h2
  obtain ⟨h31, h32⟩ := h3
  have q1 : IntKind.i64.wrap (a * a) = a * a := IntWalk.i64_in _ (by omega)
  have q2 : IntKind.i64.wrap (a * b) = a * b := IntWalk.i64_in _ (by omega)
  have q3 : IntKind.i64.wrap (b * b) = b * b := IntWalk.i64_in _ (by omega)
  have q4 : IntKind.i64.wrap (a * a + a * b) = a * a + a * b := IntWalk.i64_in _ (by omega)
  have q5 : IntKind.i64.wrap (a * a + a * b - b * b) = a * a + a * b - b * b := IntWalk.i64_in _ (by omega)
  clear ha hb
  go_enter Tryz.func105, Tryz.ntmps105
  go_wp2_with fail
  try go_quiet (fail)
  try go_wp2_with fail
  go_ret
  refine ⟨rfl, ?_⟩
  first | exact (Below.refl _ _).alloc (Nat.le_refl _) _ | exact below_drewN ((Below.refl _ _).alloc (Nat.le_refl _) _) _
theorem iNormOf_any (a b : Int) (ha : inG a) (hb : inG b) (w : World) :
    Calls Tryz.prog 53 #[.agg #[.int .i64 a, .int .i64 b]] w fun e w' => e = .returned (.int .i64 (nrm a b)) ∧ Below w.heap.size w w' := by
  have H1 := Lib.hid (fun w => iGok_yes a b ha hb w)
  have H2 := Lib.hid (fun w => iNorm_any a b ha hb w)
  clear ha hb
  go_enter Tryz.func53, Tryz.ntmps53
  go_wp2_with fail
  have bA : Below w.heap.size w (w.alloc (.cells #[Value.int IntKind.i64 a, Value.int IntKind.i64 b] 41)) := (Below.refl _ _).alloc (Nat.le_refl _) _
  have c0 : (w.alloc (.cells #[Value.int IntKind.i64 a, Value.int IntKind.i64 b] 41)).cell? ⟨w.heap.size, 0, none⟩ = some (.int .i64 a) := by simp
  have c1 : (w.alloc (.cells #[Value.int IntKind.i64 a, Value.int IntKind.i64 b] 41)).cell? ⟨w.heap.size, 1, none⟩ = some (.int .i64 b) := by simp
  refine (H1.out _).mono ?_
  rintro e w1 ⟨rfl, b1⟩
  have d0 := (b1.cell (p := ⟨w.heap.size, 0, none⟩) (by simp)).trans c0
  have d1 := (b1.cell (p := ⟨w.heap.size, 1, none⟩) (by simp)).trans c1
  go_wp2_with fail
  refine (H2.out _).mono ?_
  rintro e w2 ⟨rfl, b2⟩
  go_wp2_with fail
  go_ret
  exact ⟨rfl, (bA.trans (b1.mono (by simp))).trans (b2.mono (by have := b1.size; simp at this; omega))⟩
theorem iFloorOf_any (a b : Int) (ha : inG a) (hb : inG b) (w : World) :
    Calls Tryz.prog 54 #[.agg #[.int .i64 a, .int .i64 b]] w fun e w' => e = .returned (.int .i64 (flr a b)) ∧ Below w.heap.size w w' := by
  have H1 := Lib.hid (fun w => iGok_yes a b ha hb w)
  have H2 := Lib.hid (fun w => iFloor_any a b (flr a b) ha.1 ha.2 hb.1 hb.2 (flr_is a b ha.1 ha.2 hb.1 hb.2) w)
  clear ha hb
  go_enter Tryz.func54, Tryz.ntmps54
  go_wp2_with fail
  have bA : Below w.heap.size w (w.alloc (.cells #[Value.int IntKind.i64 a, Value.int IntKind.i64 b] 41)) := (Below.refl _ _).alloc (Nat.le_refl _) _
  have c0 : (w.alloc (.cells #[Value.int IntKind.i64 a, Value.int IntKind.i64 b] 41)).cell? ⟨w.heap.size, 0, none⟩ = some (.int .i64 a) := by simp
  have c1 : (w.alloc (.cells #[Value.int IntKind.i64 a, Value.int IntKind.i64 b] 41)).cell? ⟨w.heap.size, 1, none⟩ = some (.int .i64 b) := by simp
  refine (H1.out _).mono ?_
  rintro e w1 ⟨rfl, b1⟩
  have d0 := (b1.cell (p := ⟨w.heap.size, 0, none⟩) (by simp)).trans c0
  have d1 := (b1.cell (p := ⟨w.heap.size, 1, none⟩) (by simp)).trans c1
  go_wp2_with fail
  refine (H2.out _).mono ?_
  rintro e w2 ⟨rfl, b2⟩
  go_wp2_with fail
  go_ret
  exact ⟨rfl, (bA.trans (b1.mono (by simp))).trans (b2.mono (by have := b1.size; simp at this; omega))⟩
noncomputable def glnS (a b : Int) : ByteArray := fmtI a ++ { data := #[32] } ++ fmtI b ++ { data := #[32, 110, 111, 114, 109, 32] } ++ fmtI (nrm a b) ++ { data := #[32, 102, 108, 111, 111, 114, 32] } ++ fmtI (flr a b)
noncomputable def glnV (a b : Int) : ByteArray := if inG a ∧ inG b then glnS a b else { data := #[110, 111, 110, 101] }
theorem fmtI_21 {z : Int} (h : I64 z) : (fmtI z).size ≤ 21 := by
  rw [fmtI, strOf_size]; exact itoa_len h
theorem inG_64 {a : Int} (h : inG a) : I64 a := by unfold inG at h; unfold I64; omega
theorem nrm_64 {a b : Int} (ha : inG a) (hb : inG b) : I64 (nrm a b) := by have := nrm_bd ha hb; unfold I64; omega
theorem flr_64 {a b : Int} (ha : inG a) (hb : inG b) : I64 (flr a b) := by have := flr_is a b ha.1 ha.2 hb.1 hb.2; unfold I64; have h1 := this.2.2.1; have h2 := this.2.2.2; omega
set_option maxRecDepth 4000 in
set_option maxHeartbeats 2000000 in
theorem iGln_any (a b : Int) (w : World) (ht : TB w) :
    Calls Tryz.prog 52 #[.agg #[.int .i64 a, .int .i64 b]] w fun e w' => e = .returned (.string (glnV a b)) ∧ Below w.heap.size w w' := by
  by_cases hok : inG a ∧ inG b
  · have hv : glnV a b = glnS a b := by rw [glnV, if_pos hok]
    rw [hv, glnS]
    obtain ⟨ha, hb⟩ := hok
    have hfm := fun (z : Int) (hz : I64 z) (W : World) (hW : Below w.heap.size w W) => iFormatInt_any z hz W (ht.below hW)
    have f1 := fun (W : World) (hW : Below w.heap.size w W) => hfm a (inG_64 ha) W hW
    have f2 := fun (W : World) (hW : Below w.heap.size w W) => hfm b (inG_64 hb) W hW
    have f3 := fun (W : World) (hW : Below w.heap.size w W) => hfm (nrm a b) (nrm_64 ha hb) W hW
    have f4 := fun (W : World) (hW : Below w.heap.size w W) => hfm (flr a b) (flr_64 ha hb) W hW
    have z1 := fmtI_21 (inG_64 ha)
    have z2 := fmtI_21 (inG_64 hb)
    have z3 := fmtI_21 (nrm_64 ha hb)
    have z4 := fmtI_21 (flr_64 ha hb)
    have g1 := fun W => iGok_yes a b ha hb W
    have g3 := fun W => iNormOf_any a b ha hb W
    have g4 := fun W => iFloorOf_any a b ha hb W
    simp only [← fmtI.eq_1] at f1 f2 f3 f4
    obtain ⟨x1, hx1⟩ : ∃ x, fmtI a = x := ⟨_, rfl⟩
    obtain ⟨x2, hx2⟩ : ∃ x, fmtI b = x := ⟨_, rfl⟩
    obtain ⟨x3, hx3⟩ : ∃ x, fmtI (nrm a b) = x := ⟨_, rfl⟩
    obtain ⟨x4, hx4⟩ : ∃ x, fmtI (flr a b) = x := ⟨_, rfl⟩
    obtain ⟨y3, hy3⟩ : ∃ x, nrm a b = x := ⟨_, rfl⟩
    obtain ⟨y4, hy4⟩ : ∃ x, flr a b = x := ⟨_, rfl⟩
    rw [hx1] at f1 z1 ⊢
    rw [hx2] at f2 z2 ⊢
    rw [hx3] at f3 z3 ⊢
    rw [hx4] at f4 z4 ⊢
    rw [hy3] at f3 g3
    rw [hy4] at f4 g4
    have G1 := Lib.hid g1; have G3 := Lib.hid g3; have G4 := Lib.hid g4; have F1 := Lib.hid f1; have F2 := Lib.hid f2; have F3 := Lib.hid f3; have F4 := Lib.hid f4
    clear hx1 hx2 hx3 hx4 hy3 hy4 f1 f2 f3 f4 g1 g3 g4 hv ha hb hfm
    have bA : Below w.heap.size w (w.alloc (.cells #[Value.int IntKind.i64 a, Value.int IntKind.i64 b] 41)) := (Below.refl _ _).alloc (Nat.le_refl _) _
    have c0 : (w.alloc (.cells #[Value.int IntKind.i64 a, Value.int IntKind.i64 b] 41)).cell? ⟨w.heap.size, 0, none⟩ = some (.int .i64 a) := by simp
    have c1 : (w.alloc (.cells #[Value.int IntKind.i64 a, Value.int IntKind.i64 b] 41)).cell? ⟨w.heap.size, 1, none⟩ = some (.int .i64 b) := by simp
    have hzA : (w.alloc (.cells #[Value.int IntKind.i64 a, Value.int IntKind.i64 b] 41)).heap.size = w.heap.size + 1 := by simp
    go_enter Tryz.func52, Tryz.ntmps52
    go_wp2_with fail
    refine (G1.out _).mono ?_
    rintro e w1 ⟨rfl, b1⟩
    have d0 := (b1.cell (p := ⟨w.heap.size, 0, none⟩) (by rw [hzA]; exact Nat.lt_succ_self _)).trans c0
    have d1 := (b1.cell (p := ⟨w.heap.size, 1, none⟩) (by rw [hzA]; exact Nat.lt_succ_self _)).trans c1
    have bw1 : Below w.heap.size w w1 := bA.trans (b1.mono (by rw [hzA]; exact Nat.le_succ _))
    have k0 := cell_regrown d0
    have k1 := cell_regrown d1
    have hbw := fun d os => bw1.trans ((below_regrown w1 d os).mono bw1.size)
    have cf1 := fun d os => Calls.regrown_of (F1.out _ (hbw d os))
    have cf2 := fun d os => Calls.regrown_of (F2.out _ (hbw d os))
    have cf3 := fun d os => Calls.regrown_of (F3.out _ (hbw d os))
    have cf4 := fun d os => Calls.regrown_of (F4.out _ (hbw d os))
    have cg3 := fun d os => Calls.regrown_of (w := w1) (d := d) (os := os) (G3.out _)
    have cg4 := fun d os => Calls.regrown_of (w := w1) (d := d) (os := os) (G4.out _)
    have n1 : ¬ 9223372036854775807 < x1.size + 1 := by omega
    have n2 : ¬ 9223372036854775807 < x1.size + 1 + x2.size := by omega
    have n3 : ¬ 9223372036854775807 < x1.size + 1 + x2.size + 6 := by omega
    have n4 : ¬ 9223372036854775807 < x1.size + 1 + x2.size + 6 + x3.size := by omega
    have n5 : ¬ 9223372036854775807 < x1.size + 1 + x2.size + 6 + x3.size + 7 := by omega
    have n6 : ¬ 9223372036854775807 < x1.size + 1 + x2.size + 6 + x3.size + 7 + x4.size := by omega
    clear c0 c1 b1
    go_wp2_with fail
    refine wp_region_quiet_below (by kernel_rfl) (by kernel_rfl) ?_
    repeat (quiet_step (first | with_reducible exact cf1 _ _ | with_reducible exact cf2 _ _ | with_reducible exact cf3 _ _ | with_reducible exact cf4 _ _ | with_reducible exact cg3 _ _ | with_reducible exact cg4 _ _))
    refine wpQuiet_nil ?_
    intro _ hw'
    obtain ⟨⟨dq, osq⟩, hw''⟩ := hw'
    subst hw''
    go_wp2_with fail
    go_ret
    exact ⟨rfl, hbw dq osq⟩
  · have hv : glnV a b = { data := #[110, 111, 110, 101] } := by rw [glnV, if_neg hok]
    rw [hv]
    have G1 := Lib.hid (fun W => iGok_no a b hok W)
    clear hv hok
    have bA : Below w.heap.size w (w.alloc (.cells #[Value.int IntKind.i64 a, Value.int IntKind.i64 b] 41)) := (Below.refl _ _).alloc (Nat.le_refl _) _
    go_enter Tryz.func52, Tryz.ntmps52
    go_wp2_with fail
    refine (G1.out _).mono ?_
    rintro e w1 ⟨rfl, b1⟩
    go_wp2_with fail
    go_ret
    exact ⟨rfl, bA.trans (b1.mono (by simp))⟩
end Go.Proofs.YtbegecoocgkbiaaGreatDoor
