/- EditDistance, both: the least number of changes by rows. -/
import Derived.Test.YtbegecoocgkbiaaGreatDoorM1
import Derived.Test.YtbegecoocgkbiaaGreatDoorStr
import Derived.Deep.RegionHeld3
import Derived.Deep.AppendLies
import Derived.Deep.RegionLaw
namespace Go.Proofs.YtbegecoocgkbiaaGreatDoor
open Go.RowKit
set_option linter.unusedVariables false

theorem add_succ (a : Addr) (k : Nat) : a.add (k + 1) = ⟨a.block, a.off + (k + 1), none⟩ := by unfold Addr.add; rw [if_neg (by omega)]
/-- 'out = append(out, u)' as a step of a region that draws its order: u lies in a block of its own that was laid last, behind one draw. -/
theorem step_append1 {P : Program} {ops : Array Oper} {o : Oper} {a : Act} {w : World} {K : Act → World → Prop} {Q : Exit → Act → World → Prop} {R : Prop} {E : TypeId} {u : Value} (hg : o.guard = none) (s x : Operand) (t : TypeId)
    (ho : o.op = .call { callee := .builtin .append, args := #[s, x], argTypes := #[t, t] })
    (z : Value) (bytes : Nat) (ht : P.underlying t = some (.slice E)) (hinfo : (P.info? E).map (fun i => (i.zero, i.size, i.bytes)) = some (some z, 1, bytes)) (hzs : z.cells.size = 1)
    {v : Value} {xs : List Value} {B : Nat} (hs : a.eval s = v) (hown : Own w B E v xs) (hu : u.oneCell' = true)
    (hx : a.eval x = .slice (some ⟨w.heap.size, 0, none⟩) 1 1) (n : Nat)
    (hl : xs.length = n) (hn : n < 4294967296) (hb16 : bytes ≤ 1024) (hB : B ≤ w.heap.size)
    (h : ∀ A c w', Own w' B E (.slice A (n + 1) c) (xs ++ [u]) → Below B w w' → w.heap.size ≤ w'.heap.size → K (a.put o.dst (.slice A (n + 1) c)) w') :
    if Region.wanted o (yielded ops a.tmps) = true then Oper.wp P o a (w.alloc (.cells #[u] E)).drew K Q else R := by
  have hw : Region.wanted o (yielded ops a.tmps) = true := by simp [Region.wanted, hg]
  rw [if_pos hw]
  obtain ⟨i, hi, hz, hsize, hby⟩ := info_parts hinfo
  subst hl
  have hbel0 : Below B w (w.alloc (.cells #[u] E)).drew := ((Below.refl B w).alloc hB _).drew
  have hown0 : Own (w.alloc (.cells #[u] E)).drew B E v xs := hown.below (((Below.refl _ w).alloc (Nat.le_refl _) _).drew)
  have hcell : (w.alloc (.cells #[u] E)).drew.cell? ⟨w.heap.size, 0, none⟩ = some u := by simp
  refine wp_append_own _ s x t ho B E i z 1 bytes ht hi hz hsize hby hzs (by decide) v xs.length xs hs hown0 ⟨w.heap.size, 0, none⟩ 1 1 [u] hx rfl ?_ ?_ ?_ ?_ (by simp; omega) ?_
  · intro j q hj
    match j, hj with
    | 0, hj => simp only [List.getElem?_cons_zero, Option.some.injEq] at hj; subst hj; exact hcell
  · intro q hq; simp at hq; subst hq; exact hu
  · unfold maxLen; omega
  · calc (xs.length + 1) * bytes ≤ 4294967296 * 1024 := Nat.mul_le_mul (by omega) hb16
      _ ≤ 140737488355328 := by decide
  · intro v' w1 hown' hgrow _
    have hown2 : Own w1 B E v' (xs ++ [u]) := by
      unfold Own; simpa using hown'
    have hbel : Below B w w1 := hbel0.grown hgrow (by simp; omega) (fun k hk => (World.ownsRow.lt hown k hk).1)
    obtain ⟨A, c, hv, _⟩ := hown2.shape
    have hl : (xs ++ [u]).length = xs.length + 1 := by simp
    rw [hl] at hv
    rw [hv]
    rw [hv] at hown2
    exact h A c w1 hown2 hbel hbel.size
theorem min3_walk (a b c : Int) : (if c < (if b < a then b else a) then c else (if b < a then b else a)) = min (min a b) c := by
  split <;> split <;> omega

/-- A row of the table out of the row before it. -/
def nx (d : Nat → Int) (R : Nat → Int) (i : Nat) : Nat → Int
  | 0 => (i : Int) + 1
  | k + 1 => min (min (R k + d k) (R (k + 1) + 1)) (nx d R i k + 1)
/-- The table of the least numbers of changes. -/
def ed (v w : List UInt8) : Nat → Nat → Int
  | 0 => fun k => (k : Int)
  | i + 1 => nx (fun k => if v[i]? = w[k]? then 0 else 1) (ed v w i) i
def rowL (R : Nat → Int) (n : Nat) : List Value := (List.range n).map fun k => Value.int .i64 (R k)
theorem rowL_length (R : Nat → Int) (n : Nat) : (rowL R n).length = n := by simp [rowL]
theorem rowL_at (R : Nat → Int) (n k : Nat) (h : k < n) : (rowL R n)[k]? = some (.int .i64 (R k)) := by simp [rowL, List.getElem?_range h]
theorem rowL_succ (R : Nat → Int) (n : Nat) : rowL R (n + 1) = rowL R n ++ [.int .i64 (R n)] := by simp [rowL, List.range_succ]
theorem nx_bd (d R : Nat → Int) (i : Nat) (hd : ∀ k, 0 ≤ d k) (hR : ∀ k, 0 ≤ R k) : ∀ k, 0 ≤ nx d R i k ∧ nx d R i k ≤ (i : Int) + 1 + k
  | 0 => by simp only [nx]; omega
  | k + 1 => by have := nx_bd d R i hd hR k; have := hd k; have := hR k; have := hR (k + 1); simp only [nx]; omega
theorem ed_bd (v w : List UInt8) : ∀ i k, 0 ≤ ed v w i k ∧ ed v w i k ≤ (i : Int) + k
  | 0, k => by simp [ed]
  | i + 1, k => by
    have := nx_bd (fun k => if v[i]? = w[k]? then 0 else 1) (ed v w i) i (fun k => by split <;> omega) (fun k => (ed_bd v w i k).1) k
    simp only [ed]; omega

theorem L_atE (s : ByteArray) (i : Nat) (h : i < s.size) : (L s)[i]? = some s[i] := by
  rw [List.getElem?_eq_getElem (by simpa using h)]; rfl
theorem ed_eq (s t : ByteArray) (i k : Nat) (hi : i < s.size) (hk : k < t.size) (h : s[i] = t[k]) :
    (if ed (L s) (L t) (i + 1) k + 1 < (if ed (L s) (L t) i (k + 1) + 1 < ed (L s) (L t) i k then ed (L s) (L t) i (k + 1) + 1 else ed (L s) (L t) i k) then ed (L s) (L t) (i + 1) k + 1
      else (if ed (L s) (L t) i (k + 1) + 1 < ed (L s) (L t) i k then ed (L s) (L t) i (k + 1) + 1 else ed (L s) (L t) i k)) = ed (L s) (L t) (i + 1) (k + 1) := by
  rw [min3_walk]
  show _ = min (min (ed (L s) (L t) i k + (if (L s)[i]? = (L t)[k]? then 0 else 1)) (ed (L s) (L t) i (k + 1) + 1)) (ed (L s) (L t) (i + 1) k + 1)
  rw [L_atE s i hi, L_atE t k hk, h, if_pos rfl, Int.add_zero]
theorem ed_ne (s t : ByteArray) (i k : Nat) (hi : i < s.size) (hk : k < t.size) (h : s[i] ≠ t[k]) :
    (if ed (L s) (L t) (i + 1) k + 1 < (if ed (L s) (L t) i (k + 1) < ed (L s) (L t) i k then ed (L s) (L t) i (k + 1) + 1 else ed (L s) (L t) i k + 1) then ed (L s) (L t) (i + 1) k + 1
      else (if ed (L s) (L t) i (k + 1) < ed (L s) (L t) i k then ed (L s) (L t) i (k + 1) + 1 else ed (L s) (L t) i k + 1)) = ed (L s) (L t) (i + 1) (k + 1) := by
  show _ = min (min (ed (L s) (L t) i k + (if (L s)[i]? = (L t)[k]? then 0 else 1)) (ed (L s) (L t) i (k + 1) + 1)) (ed (L s) (L t) (i + 1) k + 1)
  have hd : (if (L s)[i]? = (L t)[k]? then (0 : Int) else 1) = 1 := by rw [L_atE s i hi, L_atE t k hk, if_neg (by simpa using h)]
  rw [hd]
  split <;> split <;> omega
set_option maxHeartbeats 400000 in
theorem isShort_any (s : ByteArray) (hs : s.size ≤ maxLen) (w : World) :
    Calls Tryz.prog 88 #[.string s] w fun e w' => e = .returned (.bool (isW (L s) && decide (s.size ≤ 60))) ∧ w = w' := by
  cases h1 : isW (L s)
  · have H1 := Lib.hid h1; clear h1
    go_enter Tryz.func88, Tryz.ntmps88
    go_wp2_with (go_at_call 70; refine (isWord_is s _ hs H1.out _).mono ?_; rintro e w' ⟨rfl, rfl⟩)
    go_ret
    exact ⟨rfl, rfl⟩
  · have h4 := isW_size h1
    have H1 := Lib.hid h1; clear h1
    go_enter Tryz.func88, Tryz.ntmps88
    go_wp2_with (go_at_call 70; refine (isWord_is s _ hs H1.out _).mono ?_; rintro e w' ⟨rfl, rfl⟩)
    all_goals go_ret
    all_goals exact ⟨ret_bool (by rw [Bool.true_and, decide_eq_decide]; omega), rfl⟩
theorem isShort_is (s : ByteArray) (b : Bool) (hb : (isW (L s) && decide (s.size ≤ 60)) = b) (hs : s.size ≤ maxLen) (w : World) :
    Calls Tryz.prog 88 #[.string s] w fun e w' => e = .returned (.bool b) ∧ w = w' := hb ▸ isShort_any s hs w
set_option maxHeartbeats 1000000 in
theorem iEdit_yes (s t : ByteArray) (hs : s.size ≤ maxLen) (ht : t.size ≤ maxLen) (h1 : isW (L s) = true) (h2 : isW (L t) = true) (h3 : s.size ≤ 60) (h4 : t.size ≤ 60) (w : World) :
    Calls Tryz.prog 29 #[.string s, .string t] w fun e w' => e = .returned (.int .i64 (ed (L s) (L t) s.size t.size)) ∧ Below w.heap.size w w' := by
  have q1 : (isW (L s) && decide (s.size ≤ 60)) = true := by rw [h1, decide_eq_true h3]; rfl
  have q2 : (isW (L t) && decide (t.size ≤ 60)) = true := by rw [h2, decide_eq_true h4]; rfl
  have Q1 := Lib.hid q1; have Q2 := Lib.hid q2
  clear h1 h2 q1 q2
  go_enter Tryz.func29, Tryz.ntmps29
  go_wp2_with (first
    | (go_at_call 88; with_reducible refine (isShort_is s _ Q1.out hs _).mono ?_; rintro e w' ⟨rfl, rfl⟩)
    | (go_at_call 88; with_reducible refine (isShort_is t _ Q2.out ht _).mono ?_; rintro e w' ⟨rfl, rfl⟩))
  go_loopw [5, 6, 23] (fun v _ i wr => ∃ (k : Nat) (j : Int) (A : Option Addr) (c : Nat), k ≤ t.size + 1 ∧ (k : Int) ≤ j ∧ j ≤ (k : Int) ∧ i = .int .i64 j ∧ v = .slice A k c ∧ Own wr w.heap.size 3 (.slice A k c) (rowL (ed (L s) (L t) 0) k) ∧ Below w.heap.size w wr) (fun _ _ i _ => t.size + 1 - (intOf i).toNat)
  case atStart => exact ⟨0, 0, _, _, by omega, by omega, by omega, rfl, rfl, Own.empty (Nat.le_refl _), (Below.refl _ _).alloc (Nat.le_refl _) _⟩
  case round =>
    obtain ⟨k, j, A, c, hk, hj1, hj2, rfl, rfl, hown, hbel⟩ := hrel
    have HO := Lib.hid hown; clear hown
    by_cases hlt : k < t.size + 1
    · go_wp2_with (at_builtin; refine wp_append1 rfl (.tmp 26) (.tmp 28) 34 rfl _ 8 Tryz.underlying34 info_int rfl rfl HO.out _ rfl rfl k ?n1 ?n2 ?n3 ?n4 ?_)
      case n1 => exact rowL_length _ _
      case n2 => omega
      case n3 => decide
      case n4 => exact hbel.size
      intro A' c' w1 hown1 hbel1 hsz1
      rw [show rowL (ed (L s) (L t) 0) k ++ [Value.int .i64 j] = rowL (ed (L s) (L t) 0) (k + 1) from by rw [rowL_succ, show j = (k : Int) from by omega]; rfl] at hown1
      have HO1 := Lib.hid hown1; clear hown1
      go_wp2_with fail
      go_roundw
      case rel => exact ⟨k + 1, j + 1, A', c', by omega, by omega, by omega, rfl, rfl, HO1.out, hbel.trans hbel1⟩
      case measure => simp [intOf]; omega
    · have hkn : k = t.size + 1 := by omega
      have hjn : j = (t.size : Int) + 1 := by omega
      subst hkn
      subst hjn
      have hr0 := HO.out.reads
      clear HO
      have HR0 := Lib.hid hr0; clear hr0
      go_wp2_with fail
      go_loopw [5, 7, 8, 9, 10, 33, 41] (fun v _ _ _ _ i _ wr => ∃ k : Nat, ∃ A c, k ≤ s.size ∧ i = .int .i64 k ∧ v = .slice A (t.size + 1) c ∧ Rds wr wr.heap.size A (rowL (ed (L s) (L t) k) (t.size + 1)) ∧ Below w.heap.size w wr) (fun _ _ _ _ _ i _ _ => s.size - (intOf i).toNat)
      case atStart => exact ⟨0, _, _, by omega, rfl, by go_num, HR0.out, hbel⟩
      case round =>
        clear HR0 hbel
        obtain ⟨i, A, c, hi, rfl, rfl, hrd, hbel⟩ := hrel
        have HR := Lib.hid hrd; clear hrd
        by_cases hlt2 : i < s.size
        · go_wp2_with fail
          obtain ⟨wo, rfl⟩ : ∃ wo : World, wo = wr := ⟨_, rfl⟩
          go_loopw [8, 9, 10, 41] (fun v _ _ j w2 => ∃ k : Nat, ∃ A' c', k ≤ t.size ∧ j = .int .i64 k ∧ v = .slice A' (k + 1) c' ∧ Own w2 wo.heap.size 3 (.slice A' (k + 1) c') (rowL (ed (L s) (L t) (i + 1)) (k + 1)) ∧ Below wo.heap.size wo w2) (fun _ _ _ j _ => t.size - (intOf j).toNat)
          case atStart => exact ⟨0, _, _, by omega, rfl, rfl, Own.one (Nat.le_refl _), (Below.refl _ _).alloc (Nat.le_refl _) _⟩
          case round =>
            obtain ⟨k, A', c', hk, rfl, rfl, hown, hbel2⟩ := hrel
            have HO := Lib.hid hown
            by_cases hlt3 : k < t.size
            · have r2 := HR.out.below hbel2 (Nat.le_refl _)
              obtain ⟨ad, rfl, hc0⟩ := r2.at_ (rowL_at _ _ k (by omega))
              obtain ⟨ad', had, hc1⟩ := r2.at_ (rowL_at (ed (L s) (L t) i) (t.size + 1) (k + 1) (by omega))
              injection had with had
              subst had
              obtain ⟨ad2, rfl, hc2⟩ := hown.reads.at_ (rowL_at (ed (L s) (L t) (i + 1)) (k + 1) k (by omega))
              clear r2 hown
              have e0 := ed_bd (L s) (L t) i k
              have e1 := ed_bd (L s) (L t) i (k + 1)
              have e2 := ed_bd (L s) (L t) (i + 1) k
              obtain ⟨e3, e4⟩ := e0
              obtain ⟨e5, e6⟩ := e1
              obtain ⟨e7, e8⟩ := e2
              have hi1 : (i : Int) < s.size := by omega
              have hi2 : (k : Int) < t.size := by omega
              by_cases hne : s[i] = t[k]
              · have hb : ((s[i].toNat : Int) != (t[k].toNat : Int)) = false := by rw [hne]; simp
                have HN := Lib.hid hne; clear hne
                go_wp2_with fail
                go_quiet (fail)
                go_wp2_with fail
                have hs1 := hbel2.size
                have hown2 : Own (wr.drewN nq) wo.heap.size 3 (.slice (some ad2) (k + 1) c') _ := HO.out.dr ((Dr.refl _).drewN nq)
                have hbel3 : Below wo.heap.size wo (wr.drewN nq) := below_drewN hbel2 nq
                have hs3 := hbel3.size
                have d1 : (wr.drewN nq).cell? (ad.add (k + 1)) = some (.int .i64 (ed (L s) (L t) i (k + 1))) := hc1
                have d1b := d1
                rw [add_succ] at d1b
                have d2 : (wr.drewN nq).cell? (ad2.add k) = some (.int .i64 (ed (L s) (L t) (i + 1) k)) := hc2
                clear hc0 hc1 hc2
                generalize wr.drewN nq = w3 at *
                have HO3 := Lib.hid hown2; clear hown2
                have g1 : (0 : Int) ≤ (k : Int) + 1 := by omega
                have g2 : (k : Int) + 1 < (t.size : Int) + 1 := by omega
                have m1 : IntKind.i64.wrap ((k : Int) + 1) = (k : Int) + 1 := IntWalk.i64_in _ (by omega)
                have g3 : ((k : Int) + 1).toNat = k + 1 := by omega
                have g4 : (k : Int) < (k : Int) + 1 := by omega
                have m2 : IntKind.i64.wrap (ed (L s) (L t) i (k + 1) + 1) = ed (L s) (L t) i (k + 1) + 1 := IntWalk.i64_in _ (by omega)
                have m3 : IntKind.i64.wrap (ed (L s) (L t) (i + 1) k + 1) = ed (L s) (L t) (i + 1) k + 1 := IntWalk.i64_in _ (by omega)
                have HE := Lib.hid (ed_eq s t i k hlt2 hlt3 HN.out)
                go_region_law (refine step_append1 rfl (.tmp 57) (.tmp 71) 34 rfl _ 8 Tryz.underlying34 info_int rfl (by rfl) HO3.out rfl (by rfl) (k + 1) (rowL_length _ _) (by omega) (by decide) hs3 ?_; intro A3 c3 w4 hown4 hbel4 hsz4)
                all_goals
                  clear m1 m2 m3 d1 d1b d2 g3
                  rw [HE.out, ← rowL_succ] at hown4
                  have HO4 := Lib.hid hown4; clear hown4
                  go_wp2_with fail
                  go_roundw
                  case rel => exact ⟨k + 1, A3, c3, by omega, by go_num, rfl, HO4.out, hbel3.trans hbel4⟩
                  case measure => simp [intOf]; omega
              · have hb : ((s[i].toNat : Int) != (t[k].toNat : Int)) = true := by
                  simp; intro h; exact hne (UInt8.toNat_inj.1 (by omega))
                have HN := Lib.hid hne; clear hne
                go_wp2_with fail
                go_quiet (fail)
                go_wp2_with fail
                have hs1 := hbel2.size
                have hown2 : Own (wr.drewN nq) wo.heap.size 3 (.slice (some ad2) (k + 1) c') _ := HO.out.dr ((Dr.refl _).drewN nq)
                have hbel3 : Below wo.heap.size wo (wr.drewN nq) := below_drewN hbel2 nq
                have hs3 := hbel3.size
                have d1 : (wr.drewN nq).cell? (ad.add (k + 1)) = some (.int .i64 (ed (L s) (L t) i (k + 1))) := hc1
                have d1b := d1
                rw [add_succ] at d1b
                have d2 : (wr.drewN nq).cell? (ad2.add k) = some (.int .i64 (ed (L s) (L t) (i + 1) k)) := hc2
                clear hc0 hc1 hc2
                generalize wr.drewN nq = w3 at *
                have HO3 := Lib.hid hown2; clear hown2
                have g1 : (0 : Int) ≤ (k : Int) + 1 := by omega
                have g2 : (k : Int) + 1 < (t.size : Int) + 1 := by omega
                have m1 : IntKind.i64.wrap ((k : Int) + 1) = (k : Int) + 1 := IntWalk.i64_in _ (by omega)
                have g3 : ((k : Int) + 1).toNat = k + 1 := by omega
                have g4 : (k : Int) < (k : Int) + 1 := by omega
                have m2 : IntKind.i64.wrap (ed (L s) (L t) i (k + 1) + 1) = ed (L s) (L t) i (k + 1) + 1 := IntWalk.i64_in _ (by omega)
                have m3 : IntKind.i64.wrap (ed (L s) (L t) (i + 1) k + 1) = ed (L s) (L t) (i + 1) k + 1 := IntWalk.i64_in _ (by omega)
                have HE := Lib.hid (ed_ne s t i k hlt2 hlt3 HN.out)
                go_region_law (refine step_append1 rfl (.tmp 57) (.tmp 71) 34 rfl _ 8 Tryz.underlying34 info_int rfl (by rfl) HO3.out rfl (by rfl) (k + 1) (rowL_length _ _) (by omega) (by decide) hs3 ?_; intro A3 c3 w4 hown4 hbel4 hsz4)
                all_goals
                  clear m1 m2 m3 d1 d1b d2 g3
                  rw [HE.out, ← rowL_succ] at hown4
                  have HO4 := Lib.hid hown4; clear hown4
                  go_wp2_with fail
                  go_roundw
                  case rel => exact ⟨k + 1, A3, c3, by omega, by go_num, rfl, HO4.out, hbel3.trans hbel4⟩
                  case measure => simp [intOf]; omega
            · have hkn : k = t.size := by omega
              subst hkn
              clear hown
              go_wp2_with fail
              go_roundw
              case rel => exact ⟨i + 1, A', c', by omega, by go_num, rfl, HO.out.reads, hbel.trans (hbel2.mono hbel.size)⟩
              case measure => simp [intOf]; omega
        · have hin : i = s.size := by omega
          subst hin
          obtain ⟨ad, rfl, hc⟩ := HR.out.at_ (rowL_at (ed (L s) (L t) s.size) (t.size + 1) t.size (by omega))
          go_wp2_with fail
          go_ret
          exact ⟨rfl, hbel⟩
end Go.Proofs.YtbegecoocgkbiaaGreatDoor
