/- Sums of Fibonacci numbers (numerals), classes by digits, both. No condition but the bounds. -/
import Derived.Test.YtbegecoocgkbiaaGreatDoorM1
import Derived.Test.YtbegecoocgkbiaaGreatDoorM17
import Derived.Test.YtbegecoocgkbiaaGreatDoorNum
namespace Go.Proofs.YtbegecoocgkbiaaGreatDoor
open Go.RowKit
set_option linter.unusedVariables false

def wp2 : Nat → Nat × Nat
  | 0 => (1, 2)
  | n + 1 => ((wp2 n).2, (wp2 n).1 + (wp2 n).2)
def wt (n : Nat) : Nat := (wp2 n).1
theorem wt_next (n : Nat) : (wp2 n).2 = wt (n + 1) := rfl
theorem wt_rec (n : Nat) : wt (n + 2) = wt n + wt (n + 1) := rfl
theorem wt_bd : ∀ n, wt n ≤ 2 ^ (n + 1) ∧ wt (n + 1) ≤ 2 ^ (n + 2)
  | 0 => by decide
  | n + 1 => by
    have := wt_bd n
    rw [wt_rec]
    refine ⟨this.2, ?_⟩
    rw [Nat.pow_succ 2 (n + 2)]
    have h2 : 2 ^ (n + 1) ≤ 2 ^ (n + 2) := Nat.pow_le_pow_right (by decide) (by omega)
    omega
theorem wt_62 {n : Nat} (h : n ≤ 61) : wt n ≤ 4611686018427387904 := by
  refine Nat.le_trans (wt_bd n).1 ?_
  calc 2 ^ (n + 1) ≤ 2 ^ 62 := Nat.pow_le_pow_right (by decide) (by omega)
    _ = 4611686018427387904 := by decide
theorem wt_pos : ∀ n, 0 < wt n ∧ 0 < wt (n + 1)
  | 0 => by decide
  | n + 1 => by have := wt_pos n; rw [wt_rec]; omega
theorem wt_60 : 1000000000000 < wt 60 := by decide +kernel
def wtL (n : Nat) : List Int := (List.range n).map fun i => (wt i : Int)
theorem wtL_len (n : Nat) : (wtL n).length = n := by simp [wtL]
theorem wtL_at {n k : Nat} (h : k < n) : (wtL n)[k]? = some (wt k : Int) := by simp [wtL, h]
theorem wtL_succ (n : Nat) : wtL (n + 1) = wtL n ++ [(wt n : Int)] := by simp [wtL, List.range_succ]
/-- The figures that the weights below i give n, behind acc. -/
def nm : Nat → Nat → List UInt8 → List UInt8
  | 0, _, acc => acc
  | i + 1, n, acc => if wt i ≤ n then nm i (n - wt i) (acc ++ [49]) else nm i n (if acc.length = 0 then acc else acc ++ [48])
def numL (n : Nat) : List UInt8 := nm 60 n []
theorem numL_61 {n : Nat} (h : n ≤ 1000000000000) : nm 61 n [] = numL n := by
  have := wt_60
  rw [nm, if_neg (by omega)]; rfl
theorem nm_len : ∀ i n acc, (nm i n acc).length ≤ acc.length + i
  | 0, n, acc => by simp [nm]
  | i + 1, n, acc => by
    unfold nm
    split
    · have := nm_len i (n - wt i) (acc ++ [49]); simp at this ⊢; omega
    · split
      · have := nm_len i n acc; omega
      · have := nm_len i n (acc ++ [48]); simp at this ⊢; omega
/-- The length of a value that is a slice. -/
def lenOfS : Value → Nat
  | .slice _ n _ => n
  | _ => 0
set_option maxRecDepth 4000 in
set_option maxHeartbeats 1000000 in
theorem iWeights_any (w : World) :
    Calls Tryz.prog 124 #[.int .i64 61] w fun e w' => ∃ g c, e = .returned (.slice (some ⟨g, 0, none⟩) 61 c) ∧ Own w' w.heap.size 3 (.slice (some ⟨g, 0, none⟩) 61 c) ((wtL 61).map (Value.int .i64)) ∧ Below w.heap.size w w' := by
  go_enter Tryz.func124, Tryz.ntmps124
  go_wp2_with fail
  go_loopw [3] (fun v wr => ∃ m g c : Nat, 2 ≤ m ∧ m ≤ 61 ∧ v = .slice (some ⟨g, 0, none⟩) m c ∧ Own wr w.heap.size 3 (.slice (some ⟨g, 0, none⟩) m c) ((wtL m).map (Value.int .i64)) ∧ Below w.heap.size w wr) (fun v _ => 61 - lenOfS v)
  case atStart =>
    refine ⟨2, w.heap.size, 2, by omega, by omega, rfl, ?_, (Below.refl _ _).alloc (Nat.le_refl _) _⟩
    have h := World.ownsRow_lit (base := w.heap.size) (e := 3) (size := 1) w #[.int .i64 1, .int .i64 2] 2 (Nat.le_refl _) (by unfold maxLen; omega) rfl
    exact h
  case round =>
    obtain ⟨m, g, c, hm2, hm, rfl, hown, hbel⟩ := hrel
    have HO := Lib.hid hown
    have hsz := hbel.size
    clear hown
    by_cases hlt : m < 61
    · obtain ⟨k1, hk1⟩ : ∃ k, k + 1 = m := ⟨m - 1, by omega⟩
      obtain ⟨k2, hk2⟩ : ∃ k, k + 2 = m := ⟨m - 2, by omega⟩
      have q1 : IntKind.i64.wrap ((m : Int) - 1) = (k1 : Int) := by rw [IntWalk.i64_in _ (by omega)]; omega
      have q2 : IntKind.i64.wrap ((m : Int) - 2) = (k2 : Int) := by rw [IntWalk.i64_in _ (by omega)]; omega
      have l1 : k1 < m := by omega
      have l2 : k2 < m := by omega
      obtain ⟨ga, hga, _, _, hca, _, _⟩ := HO.out.store (k := k1) (by rw [List.length_map, wtL_len]; exact l1)
      obtain ⟨gb, hgb, _, _, hcb, _, _⟩ := HO.out.store (k := k2) (by rw [List.length_map, wtL_len]; exact l2)
      injection hga with hga
      injection hga with hga
      subst hga
      injection hgb with hgb
      injection hgb with hgb
      subst hgb
      rw [map_at (Value.int .i64) (wtL_at l1)] at hca
      rw [map_at (Value.int .i64) (wtL_at l2)] at hcb
      have hsum : wt m = wt k2 + wt k1 := by rw [← hk2, wt_rec]; congr 2; omega
      have b1 := wt_62 (n := k1) (by omega)
      have b2 := wt_62 (n := k2) (by omega)
      have bm := wt_62 (n := m) (by omega)
      obtain ⟨x1, hx1⟩ : ∃ x, wt k1 = x := ⟨_, rfl⟩
      obtain ⟨x2, hx2⟩ : ∃ x, wt k2 = x := ⟨_, rfl⟩
      obtain ⟨x3, hx3⟩ : ∃ x, wt m = x := ⟨_, rfl⟩
      rw [hx1] at hca hsum b1
      rw [hx2] at hcb hsum b2
      rw [hx3] at hsum bm
      have q3 : IntKind.i64.wrap ((x1 : Int) + (x2 : Int)) = (x3 : Int) := by rw [IntWalk.i64_in _ (by omega)]; omega
      have HX3 := Lib.hid hx3
      have hl3 : ((wtL m).map (Value.int .i64)).length = m := by rw [List.length_map, wtL_len]
      have HL3 := Lib.hid hl3
      have hm9 : m < 4294967296 := by omega
      have i1 : (k1 : Int) < (m : Int) := by omega
      have i2 : (k2 : Int) < (m : Int) := by omega
      clear hx1 hx2 hx3 hsum hl3 hk1 hk2
      go_wp2_with fail
      go_region_law (refine step_append4 rfl (.tmp 9) (.tmp 23) 34 rfl _ 8 Tryz.underlying34 info_int rfl m c rfl HO.out rfl (by rfl) HL3.out hm9 (by decide) hsz ?_; intro g4 c4 w4 ha4)
      all_goals
        have hown4 := ha4.own
        rw [show (wtL m).map (Value.int .i64) ++ [Value.int .i64 (x3 : Int)] = (wtL (m + 1)).map (Value.int .i64) from by rw [wtL_succ, HX3.out, List.map_append]; rfl] at hown4
        have HO4 := Lib.hid hown4
        have hbel4 := hbel.trans ha4.bel
        clear ha4 hown4
        go_wp2_with fail
        refine ⟨⟨_, _, _, _, _, _, _, _, _, _, _, _, _, _, _, _, _, _, _, _, _, ⟨m + 1, g4, c4, by omega, by omega, rfl, HO4.out, hbel4⟩, rfl⟩, ?_⟩
        show 61 - (m + 1) < 61 - m
        omega
    · have hme : m = 61 := by omega
      subst hme
      have hcl : 61 ≤ c := by
        obtain ⟨_, _, hv, h1, _, _⟩ := HO.out.shape
        injection hv with e1 e2 e3
        rw [List.length_map, wtL_len] at h1
        omega
      go_wp2_with fail
      go_ret
      exact ⟨g, c, rfl, HO.out, hbel⟩
set_option maxRecDepth 4000 in
set_option maxHeartbeats 2000000 in
theorem iNum_any (n : Nat) (hn : n ≤ 1000000000000) (w : World) :
    Calls Tryz.prog 83 #[.int .i64 n] w fun e w' => e = .returned (.string (strOf (numL n))) ∧ Below w.heap.size w w' := by
  obtain ⟨rr, hrr⟩ : ∃ rr, numL n = rr := ⟨_, rfl⟩
  rw [hrr]
  rw [← numL_61 hn] at hrr
  have HRR := Lib.hid hrr
  clear hrr
  go_enter Tryz.func83, Tryz.ntmps83
  go_wp2_with fail
  refine (iWeights_any _).mono ?_
  rintro e w1 ⟨gw, cw, rfl, ow, hb1⟩
  have hz1 := hb1.size
  have hrd := ow.reads
  have HW := Lib.hid hrd
  clear ow hrd
  go_wp2_with fail
  go_loopw [0, 4, 5, 12, 28] (fun x v i _ _ wr => ∃ k j m g c : Nat, ∃ acc : List UInt8, k ≤ 61 ∧ m ≤ 61 - k ∧ j ≤ 1000000000000 ∧ x = .int .i64 j ∧ i = .int .i64 ((k : Int) - 1) ∧ v = .slice (some ⟨g, 0, none⟩) m c ∧ acc.length = m ∧ nm k j acc = rr ∧ Own wr w1.heap.size 5 (.slice (some ⟨g, 0, none⟩) m c) (byV acc) ∧ Below w1.heap.size w1 wr) (fun _ _ i _ _ _ => (intOf i + 1).toNat)
  case atStart => exact ⟨61, n, 0, w1.heap.size, 0, [], by omega, by omega, hn, rfl, rfl, rfl, rfl, HRR.out, Own.empty (Nat.le_refl _), (Below.refl _ _).alloc (Nat.le_refl _) _⟩
  case round =>
    obtain ⟨k, j, m, g, c, acc, hk, hmk, hj, rfl, rfl, rfl, hacc, hg, hown, hbel⟩ := hrel
    have HO := Lib.hid hown; have HA := Lib.hid hacc
    have hsz := hbel.size
    clear hown hacc
    by_cases hk0 : k = 0
    · subst hk0
      have hfin : acc = rr := hg
      subst hfin
      have hcv := Rds.conv (HO.out.reads) HA.out 22 9 5 c Tryz.underlying22 Tryz.underlying5 Tryz.underlying9
      clear hg
      go_wp2_with fail
      go_ret
      exact ⟨rfl, hb1.trans (hbel.mono hz1)⟩
    · obtain ⟨q, rfl⟩ : ∃ q, k = q + 1 := ⟨k - 1, by omega⟩
      have hq1 : ((q + 1 : Nat) : Int) - 1 = (q : Int) := by omega
      rw [hq1]
      unfold nm at hg
      have hql : (wtL 61)[q]? = some (wt q : Int) := wtL_at (by omega)
      obtain ⟨ga, hga, hcw⟩ := (HW.out.below hbel (Nat.le_refl _)).at_ (map_at (Value.int .i64) hql)
      have hqb := wt_62 (n := q) (by omega)
      have hqp := (wt_pos q).1
      have hqt : q < 61 := by omega
      injection hga with hga
      subst hga
      rw [show (⟨gw, 0, none⟩ : Addr).add q = ⟨gw, q, none⟩ from by unfold Addr.add; split <;> simp_all] at hcw
      have hl3 : (byV acc).length = m := by rw [byV_length, HA.out]
      have HL3 := Lib.hid hl3
      have hm9 : m < 4294967296 := by omega
      clear hl3 hql
      by_cases hwn : wt q ≤ j
      · rw [if_pos hwn] at hg
        obtain ⟨x, hx⟩ : ∃ x, wt q = x := ⟨_, rfl⟩
        rw [hx] at hg hwn hqb hqp hcw
        have hdif : ((j - x : Nat) : Int) = (j : Int) - (x : Int) := by omega
        have hge : (x : Int) ≤ (j : Int) := by omega
        have HG := Lib.hid hg
        clear hg hx
        go_wp2_with (at_builtin; refine wp_append4 rfl (.tmp 25) (.tmp 26) 22 rfl _ 1 Tryz.underlying22 info_u8 rfl m c rfl HO.out _ rfl rfl HL3.out hm9 (by decide) hsz ?_)
        intro g4 c4 w4 ha4
        have hown4 := ha4.own
        rw [show byV acc ++ [Value.int .u8 49] = byV (acc ++ [49]) from byV_snoc acc 49] at hown4
        have HO4 := Lib.hid hown4
        have hbel4 := hbel.trans ha4.bel
        clear ha4 hown4
        go_wp2_with fail
        go_roundw
        case rel => exact ⟨q, j - x, m + 1, g4, c4, acc ++ [49], by omega, by omega, by omega, by rw [hdif], by go_num, rfl, by rw [List.length_append, HA.out]; rfl, HG.out, HO4.out, hbel4⟩
        case measure => simp [intOf] <;> omega
      · rw [if_neg hwn] at hg
        obtain ⟨x, hx⟩ : ∃ x, wt q = x := ⟨_, rfl⟩
        rw [hx] at hwn hqb hqp hcw
        have hge : ¬ (x : Int) ≤ (j : Int) := by omega
        clear hx
        by_cases hm0 : m = 0
        · subst hm0
          rw [if_pos HA.out] at hg
          have HG := Lib.hid hg
          clear hg
          go_wp2_with fail
          go_roundw
          case rel => exact ⟨q, j, 0, g, c, acc, by omega, by omega, hj, rfl, by go_num, rfl, HA.out, HG.out, HO.out, hbel⟩
          case measure => simp [intOf] <;> omega
        · rw [if_neg (by rw [HA.out]; exact hm0)] at hg
          have HG := Lib.hid hg
          have hmp : (0 : Int) < (m : Int) := by omega
          clear hg
          go_wp2_with (at_builtin; refine wp_append4 rfl (.tmp 32) (.tmp 33) 22 rfl _ 1 Tryz.underlying22 info_u8 rfl m c rfl HO.out _ rfl rfl HL3.out hm9 (by decide) hsz ?_)
          intro g4 c4 w4 ha4
          have hown4 := ha4.own
          rw [show byV acc ++ [Value.int .u8 48] = byV (acc ++ [48]) from byV_snoc acc 48] at hown4
          have HO4 := Lib.hid hown4
          have hbel4 := hbel.trans ha4.bel
          clear ha4 hown4
          go_wp2_with fail
          go_roundw
          case rel => exact ⟨q, j, m + 1, g4, c4, acc ++ [48], by omega, by omega, hj, rfl, by go_num, rfl, by rw [List.length_append, HA.out]; rfl, HG.out, HO4.out, hbel4⟩
          case measure => simp [intOf] <;> omega
end Go.Proofs.YtbegecoocgkbiaaGreatDoor
