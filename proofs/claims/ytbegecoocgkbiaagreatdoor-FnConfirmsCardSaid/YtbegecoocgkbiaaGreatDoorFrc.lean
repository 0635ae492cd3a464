/- FractionOf([1, 1, 1, 1, 1]). No condition. -/
import Derived.Test.YtbegecoocgkbiaaGreatDoorMtx
import Derived.Test.YtbegecoocgkbiaaGreatDoorM17
import Derived.Test.YtbegecoocgkbiaaGreatDoorM1
import Derived.Test.YtbegecoocgkbiaaGreatDoorNum
import Derived.BigQuiet
import Derived.OwnWalk
namespace Go.Proofs.YtbegecoocgkbiaaGreatDoor
open Go.RowKit
set_option linter.unusedVariables false

/-- The terms of the convergents, all quotients being 1. -/
def cvT : Nat → Nat × Nat × Nat × Nat
  | 0 => (0, 1, 1, 0)
  | k + 1 => ((cvT k).2.2.1, (cvT k).2.2.2, (cvT k).2.2.1 + (cvT k).1, (cvT k).2.2.2 + (cvT k).2.1)
theorem cvT_le : ∀ k, k < 6 → (cvT k).1 ≤ 100 ∧ (cvT k).2.1 ≤ 100 ∧ (cvT k).2.2.1 ≤ 100 ∧ (cvT k).2.2.2 ≤ 100 := by decide
def ones : List Value := [.int .i64 1, .int .i64 1, .int .i64 1, .int .i64 1, .int .i64 1]
theorem ones_at {w : World} {B g : Nat} (h : Rds w B (some ⟨g, 0, none⟩) ones) {k : Nat} (hk : k < 5) : w.cell? ⟨g, k, none⟩ = some (.int .i64 1) := by
  refine rds_cell h ?_
  match k, hk with
  | 0, _ => rfl
  | 1, _ => rfl
  | 2, _ => rfl
  | 3, _ => rfl
  | 4, _ => rfl
/-- One append at whatever world, of one cell at whatever address. -/
theorem wp_append4a {P : Program} {w : World} {B : Nat} {E : TypeId} {xs : List Value} {go : Nat} {ops : Array Oper} {rest : List Oper} {o : Oper} {a : Act} {Q : Exit → Act → World → Prop} (hgd : o.guard = none) (s x : Operand) (t : TypeId)
    (ho : o.op = .call { callee := .builtin .append, args := #[s, x], argTypes := #[t, t] })
    (z : Value) (bytes : Nat) (ht : P.underlying t = some (.slice E)) (hinfo : (P.info? E).map (fun i => (i.zero, i.size, i.bytes)) = some (some z, 1, bytes)) (hzs : z.cells.size = 1)
    (m c : Nat) (hs : a.eval s = .slice (some ⟨go, 0, none⟩) m c) (hown : Own w B E (.slice (some ⟨go, 0, none⟩) m c) xs) (u : Value) (hu : u.oneCell' = true) (ad : Addr)
    (hx : a.eval x = .slice (some ad) 1 1) (hc : w.cell? (ad.add 0) = some u)
    (hl : xs.length = m) (hn : m < 4294967296) (hb16 : bytes ≤ 1024) (hB : B ≤ w.heap.size)
    (h : ∀ g cap w', App4 w w' B E go m c g (m + 1) cap (xs ++ [u]) → wpList P ops Q rest (a.put o.dst (.slice (some ⟨g, 0, none⟩) (m + 1) cap)) w') :
    wpList P ops Q (o :: rest) a w := by
  obtain ⟨i, hi, hz, hsize, hby⟩ := info_parts hinfo
  have hgo := World.ownsRow.lt hown go rfl
  refine wpList_plain hgd fun K hK => ?_
  obtain ⟨g, cap, w1, hr, h2, h3, h4, h5⟩ := run_append4 (P := P) (w := w) (B := B) t o.type i z bytes ht hi hz hsize hby hzs m c hown hl
    ad 1 1 [u] rfl (fun j q hj => by match j, hj with | 0, hj => simp at hj; subst hj; exact hc) (fun q hq => by simp at hq; subst hq; exact hu) (by decide) (by unfold maxLen; omega)
    (calc (m + 1) * bytes ≤ 4294967296 * 1024 := Nat.mul_le_mul (by omega) hb16
      _ ≤ 140737488355328 := by decide) hB
  unfold Oper.wp execOp
  simp only [ho, resolve, invoke, builtin, Sem.run_bind, Sem.run_pure, Result.andThen_ok, List.map_toArray, List.map_cons, List.map_nil, hs, hx, hr]
  exact hK _ _ (h g cap w1 (App4.of (Below.refl _ w) hB hgo.1 hgo.2 h2 h3 h4 h5))
set_option maxHeartbeats 1000000 in
theorem areQ_5 (g B : Nat) (w : World) (h : Rds w B (some ⟨g, 0, none⟩) ones) :
    Calls Tryz.prog 121 #[.slice (some ⟨g, 0, none⟩) 5 5] w fun e w' => e = .returned (.bool true) ∧ w = w' := by
  have HH := Lib.hid h
  clear h
  have hwi := fun (k : Nat) w => within_yes 1 (min (k : Int) 1) 1000 ⟨by omega, by omega⟩ w
  have HWI := Lib.hid hwi
  clear hwi
  go_enter Tryz.func121, Tryz.ntmps121
  go_wp2_with fail
  go_loop [3, 4, 7] (fun _ _ i => ∃ k : Nat, k ≤ 5 ∧ i = .int .i64 k) (fun _ _ i => 6 - (intOf i).toNat)
  case atStart => exact ⟨0, by omega, rfl⟩
  case round =>
    obtain ⟨k, hk, rfl⟩ := hrel
    by_cases hlt : k < 5
    · have hlt2 : (k : Int) < 5 := by omega
      have hc := ones_at HH.out hlt
      go_wp2_with (go_at_call 61; refine (HWI.out k _).mono ?_; rintro e w' ⟨rfl, rfl⟩)
      go_round
      case rel => exact ⟨k + 1, by omega, by go_num⟩
      case measure => simp [intOf]; omega
    · have hk5 : k = 5 := by omega
      subst hk5
      go_wp2_with (go_at_call 61; refine (within_yes _ _ _ (by decide) _).mono ?_; rintro e w' ⟨rfl, rfl⟩)
      go_ret
      exact ⟨rfl, rfl⟩
/-- The last row of a table: two numbers. -/
def LastR (w : World) (vs : List Value) (k a b : Nat) : Prop := 0 < k → ∃ q, vs[k - 1]? = some (.slice (some ⟨q, 0, none⟩) 2 2) ∧ q < w.heap.size ∧ w.cell? ⟨q, 0, none⟩ = some (.int .i64 a) ∧ w.cell? ⟨q, 1, none⟩ = some (.int .i64 b)
set_option maxRecDepth 4000 in
set_option maxHeartbeats 2000000 in
theorem conv_5 (g B : Nat) (w : World) (h : Rds w B (some ⟨g, 0, none⟩) ones) (hB : B ≤ w.heap.size) :
    Calls Tryz.prog 122 #[.slice (some ⟨g, 0, none⟩) 5 5] w fun e w' => ∃ g2 c vs, e = .returned (.tuple #[.slice (some ⟨g2, 0, none⟩) 5 c, .bool true]) ∧ vs.length = 5 ∧ Own w' w.heap.size 34 (.slice (some ⟨g2, 0, none⟩) 5 c) vs ∧ LastR w' vs 5 8 5 ∧ Below w.heap.size w w' := by
  have HH := Lib.hid h
  clear h
  go_enter Tryz.func122, Tryz.ntmps122
  go_wp2_with fail
  go_loopw [4, 5, 6, 7, 8, 10, 14] (fun v a b c d _ i wr => ∃ (k g2 cc : Nat) (vs : List Value), k ≤ 5 ∧ i = .int .i64 k ∧ v = .slice (some ⟨g2, 0, none⟩) k cc ∧ a = .int .i64 (cvT k).1 ∧ b = .int .i64 (cvT k).2.1 ∧ c = .int .i64 (cvT k).2.2.1 ∧ d = .int .i64 (cvT k).2.2.2 ∧ vs.length = k ∧ Own wr w.heap.size 34 (.slice (some ⟨g2, 0, none⟩) k cc) vs ∧ LastR wr vs k (cvT k).2.2.1 (cvT k).2.2.2 ∧ Below w.heap.size w wr) (fun _ _ _ _ _ _ i _ => 6 - (intOf i).toNat)
  case atStart => exact ⟨0, w.heap.size, 0, [], by omega, rfl, rfl, rfl, rfl, rfl, rfl, rfl, Own.empty (Nat.le_refl _), (fun h => absurd h (by decide)), (Below.refl _ _).alloc (Nat.le_refl _) _⟩
  case round =>
    obtain ⟨k, g2, cc, vs, hk, rfl, rfl, rfl, rfl, rfl, rfl, hvl, hown, hlast, hbel⟩ := hrel
    have hzr := hbel.size
    by_cases hlt : k < 5
    · have hlt2 : (k : Int) < 5 := by omega
      have hc := ones_at (HH.out.below hbel hB) hlt
      obtain ⟨b1, b2, b3, b4⟩ := cvT_le k (by omega)
      have hnx : cvT (k + 1) = ((cvT k).2.2.1, (cvT k).2.2.2, (cvT k).2.2.1 + (cvT k).1, (cvT k).2.2.2 + (cvT k).2.1) := rfl
      obtain ⟨a, ha⟩ : ∃ a, (cvT k).1 = a := ⟨_, rfl⟩
      obtain ⟨b, hb⟩ : ∃ b, (cvT k).2.1 = b := ⟨_, rfl⟩
      obtain ⟨c, hcc⟩ : ∃ c, (cvT k).2.2.1 = c := ⟨_, rfl⟩
      obtain ⟨d, hd⟩ : ∃ d, (cvT k).2.2.2 = d := ⟨_, rfl⟩
      rw [ha, hb, hcc, hd] at hnx
      rw [ha] at b1
      rw [hb] at b2
      rw [hcc] at b3
      rw [hd] at b4
      rw [ha, hb, hcc, hd]
      obtain ⟨s, hs⟩ : ∃ s, c + a = s := ⟨_, rfl⟩
      obtain ⟨t, ht⟩ : ∃ t, d + b = t := ⟨_, rfl⟩
      rw [hs, ht] at hnx
      have e1 : (c : Int) + (a : Int) = (s : Int) := by omega
      have e2 : (d : Int) + (b : Int) = (t : Int) := by omega
      have n1 : decide ((1000000000 : Int) < (s : Int)) = false := decide_eq_false (by omega)
      have n2 : decide ((1000000000 : Int) < (t : Int)) = false := decide_eq_false (by omega)
      have hs9 : s ≤ 200 := by omega
      have ht9 : t ≤ 200 := by omega
      have bA := (Below.refl wr.heap.size wr).alloc (Nat.le_refl _) (.cells #[.int .i64 s, .int .i64 t] 3)
      have qA := heap_alloc_new wr (.cells #[.int .i64 s, .int .i64 t] 3)
      have zA : (wr.alloc (.cells #[.int .i64 s, .int .i64 t] 3)).heap.size = wr.heap.size + 1 := by simp
      have hgl : g2 < wr.heap.size := (World.ownsRow.lt hown g2 rfl).2
      have bB := bA.trans (((Below.refl (wr.alloc (.cells #[.int .i64 s, .int .i64 t] 3)).heap.size (wr.alloc (.cells #[.int .i64 s, .int .i64 t] 3))).alloc (Nat.le_refl _) (.cells #[.slice (some ⟨wr.heap.size, 0, none⟩) 2 2] 34)).mono (by rw [zA]; omega))
      have zB : ((wr.alloc (.cells #[.int .i64 s, .int .i64 t] 3)).alloc (.cells #[.slice (some ⟨wr.heap.size, 0, none⟩) 2 2] 34)).heap.size = wr.heap.size + 1 + 1 := by simp
      have qB := (heap_alloc_old (wr.alloc (.cells #[.int .i64 s, .int .i64 t] 3)) (.cells #[.slice (some ⟨wr.heap.size, 0, none⟩) 2 2] 34) (show wr.heap.size < (wr.alloc (.cells #[.int .i64 s, .int .i64 t] 3)).heap.size by rw [zA]; omega)).trans qA
      have qC := heap_alloc_new (wr.alloc (.cells #[.int .i64 s, .int .i64 t] 3)) (.cells #[.slice (some ⟨wr.heap.size, 0, none⟩) 2 2] 34)
      rw [zA] at qC
      have cC : ((wr.alloc (.cells #[.int .i64 s, .int .i64 t] 3)).alloc (.cells #[.slice (some ⟨wr.heap.size, 0, none⟩) 2 2] 34)).cell? ((⟨wr.heap.size + 1, 0, none⟩ : Addr).add 0) = some (.slice (some ⟨wr.heap.size, 0, none⟩) 2 2) := cell_of_row _ _ 0 _ _ (0, 0) qC
      have hO1 := hown.below bB
      have HO1 := Lib.hid hO1; have HNX := Lib.hid hnx; have HVL := Lib.hid hvl; have BA := Lib.hid bB; have QA := Lib.hid qB; have ZA := Lib.hid zB; have CC := Lib.hid cC
      have hm9 : k < 4294967296 := by omega
      have hz1 : w.heap.size ≤ ((wr.alloc (.cells #[.int .i64 s, .int .i64 t] 3)).alloc (.cells #[.slice (some ⟨wr.heap.size, 0, none⟩) 2 2] 34)).heap.size := by rw [zB]; omega
      clear hO1 hnx hvl bA qA hown hlast ha hb hcc hd zA bB qB qC zB cC
      go_wp2_with (at_builtin; refine wp_append4a rfl (.tmp 36) (.tmp 40) 37 rfl _ 24 Tryz.underlying37 info_ints rfl k cc rfl HO1.out _ (by rfl) ⟨wr.heap.size + 1, 0, none⟩ (by simp [Act.eval]) CC.out HVL.out hm9 (by decide) hz1 ?_)
      intro g4 c4 w4 ha4
      have hq := (ha4.blk wr.heap.size (by rw [ZA.out]; omega) (by omega)).trans QA.out
      have hown4 := ha4.own
      have hbel4 := (hbel.trans (BA.out.mono hzr)).trans ha4.bel
      have hs4 := ha4.size
      rw [ZA.out] at hs4
      have hl4 : LastR w4 (vs ++ [.slice (some ⟨wr.heap.size, 0, none⟩) 2 2]) (k + 1) s t := fun _ => ⟨wr.heap.size, by rw [Nat.add_sub_cancel, List.getElem?_append_right (by rw [HVL.out]; exact Nat.le_refl _), HVL.out, Nat.sub_self]; rfl, by omega, cell_of_row _ _ 0 _ _ (0, 0) hq, cell_of_row _ _ 1 _ _ (0, 0) hq⟩
      have HO4 := Lib.hid hown4; have HL4 := Lib.hid hl4
      clear ha4 hown4 hl4 hq
      go_wp2_with fail
      go_roundw
      case rel => exact ⟨k + 1, g4, c4, vs ++ [.slice (some ⟨wr.heap.size, 0, none⟩) 2 2], by omega, by go_num, rfl, by rw [HNX.out], by rw [HNX.out], by rw [HNX.out], by rw [HNX.out], by rw [List.length_append, HVL.out]; rfl, HO4.out, by rw [HNX.out]; exact HL4.out, hbel4⟩
      case measure => simp [intOf]; omega
    · have hk5 : k = 5 := by omega
      subst hk5
      have HO := Lib.hid hown; have HL := Lib.hid (show LastR wr vs 5 8 5 from hlast)
      clear hown hlast
      go_wp2_with fail
      go_ret2
      exact ⟨g2, cc, vs, rfl, hvl, HO.out, HL.out, hbel⟩
set_option maxHeartbeats 1000000 in
theorem convOf_5 (g B : Nat) (w : World) (h : Rds w B (some ⟨g, 0, none⟩) ones) (hB : B ≤ w.heap.size) :
    Calls Tryz.prog 77 #[.slice (some ⟨g, 0, none⟩) 5 5] w fun e w' => ∃ g2 c vs, e = .returned (.slice (some ⟨g2, 0, none⟩) 5 c) ∧ vs.length = 5 ∧ Own w' w.heap.size 34 (.slice (some ⟨g2, 0, none⟩) 5 c) vs ∧ LastR w' vs 5 8 5 ∧ Below w.heap.size w w' := by
  have h1 := areQ_5 g B w h
  have h2 := conv_5 g B w h hB
  have H1 := Lib.hid h1; have H2 := Lib.hid h2
  clear h h1 h2
  go_enter Tryz.func77, Tryz.ntmps77
  go_wp2_with fail
  refine H1.out.mono ?_
  rintro e w' ⟨rfl, rfl⟩
  go_wp2_with fail
  refine H2.out.mono ?_
  rintro e w1 ⟨g2, c, vs, rfl, hv, o1, l1, b1⟩
  have HO := Lib.hid o1; have HL := Lib.hid l1
  clear o1 l1
  go_wp2_with fail
  go_ret
  exact ⟨g2, c, vs, rfl, hv, HO.out, HL.out, b1⟩
set_option maxHeartbeats 1000000 in
theorem frac_5 (g B : Nat) (w : World) (h : Rds w B (some ⟨g, 0, none⟩) ones) (hB : B ≤ w.heap.size) :
    Calls Tryz.prog 19 #[.slice (some ⟨g, 0, none⟩) 5 5] w fun e w' => e = .returned (.tuple #[.int .i64 8, .int .i64 5, .bool true]) ∧ Below w.heap.size w w' := by
  have h2 := convOf_5 g B w h hB
  have H2 := Lib.hid h2
  clear h h2
  go_enter Tryz.func19, Tryz.ntmps19
  go_wp2_with fail
  refine H2.out.mono ?_
  rintro e w1 ⟨g2, c, vs, rfl, hv, o1, l1, b1⟩
  obtain ⟨q, hq1, hq2, hq3, hq4⟩ := l1 (by decide)
  have hc := rds_cell (o1.reads) hq1
  clear o1 l1 hv
  go_wp2_with fail
  go_quiet (fail)
  go_wp2_with fail
  go_ret3
  exact ⟨rfl, b1.trans ((Dr.refl w1).drewN _).below⟩
end Go.Proofs.YtbegecoocgkbiaaGreatDoor
