/- CountAllowed, LongestAllowed, both: how many allowed words begin with each letter. -/
import Derived.Test.YtfjmopiofcbpgaaPair
import Derived.Test.YtfjmopiofcbpgaaArr
import Derived.RegionTactic
import Derived.BigRegion
import Derived.ChangeAlike
namespace Go.Proofs.Ytfjmopiofcbpgaa
open Go.RowKit
set_option linter.unusedVariables false

/-- The number of the letter at i. -/
def la (s : ByteArray) (i : Nat) : Nat := ((L s).getD i 0).toNat - 97
def ctStep1 (cs nx : List Int) (s : ByteArray) : List Int := nx.set (la s 0) (wrap64 (nx.getD (la s 0) 0 + cs.getD (la s 1) 0))
def ctGo (cs : List Int) (ss : List ByteArray) (nx : List Int) : List Int := ss.foldl (ctStep1 cs) nx
def ctRun (ss : List ByteArray) : Nat → List Int
  | 0 => [1, 1, 1, 1]
  | n + 1 => ctGo (ctRun ss n) ss [0, 0, 0, 0]
theorem ctGo_length (cs : List Int) : ∀ (ss : List ByteArray) (nx : List Int), (ctGo cs ss nx).length = nx.length
  | [], nx => rfl
  | s :: r, nx => by
    show (ctGo cs r (ctStep1 cs nx s)).length = _
    rw [ctGo_length cs r, ctStep1, List.length_set]
theorem ctRun_length (ss : List ByteArray) : ∀ n, (ctRun ss n).length = 4
  | 0 => rfl
  | n + 1 => ctGo_length _ _ _
theorem ctGo_take {cs nx : List Int} {ss : List ByteArray} {k : Nat} {s : ByteArray} (h : ss[k]? = some s) : ctGo cs (ss.take (k + 1)) nx = ctStep1 cs (ctGo cs (ss.take k) nx) s := by
  rw [List.take_add_one, h]; simp [ctGo]
def sum4 (cs : List Int) : Int := wrap64 (wrap64 (wrap64 (cs.getD 0 0 + cs.getD 1 0) + cs.getD 2 0) + cs.getD 3 0)
def ctAll (ss : List ByteArray) (n : Nat) : Int := if n = 0 then 1 else sum4 (ctRun ss (n - 1))
theorem s_at {s : ByteArray} {l : List UInt8} (h : L s = l) (i : Nat) (hi : i < s.size) : s[i] = l[i]'(by rw [← h, L_len]; exact hi) := by subst h; rfl
/-- A pair's two letters. -/
theorem pair_letters {s : ByteArray} (h : pairW s = true) : ∃ a b : UInt8, L s = [a, b] ∧ 97 ≤ a.toNat ∧ a.toNat ≤ 100 ∧ 97 ≤ b.toNat ∧ b.toNat ≤ 100 := by
  unfold pairW at h
  simp only [Bool.and_eq_true, decide_eq_true_eq] at h
  obtain ⟨h1, h2⟩ := h
  have hl : (L s).length = 2 := by rw [L_len]; exact h2
  match hm : L s, hl with
  | [a, b], _ =>
    rw [hm] at h1
    simp [isW, okc] at h1
    exact ⟨a, b, rfl, by omega, by omega, by omega, by omega⟩
theorem prGo_all : ∀ (ss : List ByteArray) (p : Option ByteArray), prGo p ss = true → ∀ s ∈ ss, pairW s = true
  | [], _, _, s, hs => by simp at hs
  | x :: r, p, h, s, hs => by
    rw [prGo_cons] at h
    simp only [Bool.and_eq_true] at h
    rcases List.mem_cons.1 hs with rfl | hs
    · exact h.1.1
    · exact prGo_all r _ h.2 s hs

set_option maxRecDepth 8000 in
set_option maxHeartbeats 1000000 in
theorem allowedCounts_yes (n : Nat) (ss : List ByteArray) (A : Option Addr) (c B : Nat) (w : World) (hB : B ≤ w.heap.size) (h1 : 1 ≤ n) (h20 : n ≤ 20) (hp : ∀ s ∈ ss, pairW s = true) (hn : ss.length ≤ 4294967296) (hrd : Rds w B A (ss.map Value.string)) :
    Calls Try.prog 93 #[.int .i64 n, .slice A ss.length c] w fun e w' => e = .returned (.agg ((ctRun ss (n - 1)).map (Value.int .i64)).toArray) ∧ Below w.heap.size w w' := by
  have HR := Lib.hid hrd; clear hrd
  have HW := Lib.hid hp; clear hp
  have hT := Try.underlying94
  have hinfo : (Try.prog.info? 94).map (·.size) = some 4 := by kernel_rfl
  have HI := Lib.hid (And.intro hT hinfo); clear hT hinfo
  have n1 : (k : Nat) → k < n - 1 → (k : Int) < (n : Int) - 1 := fun k h => by omega
  have N1 := Lib.hid n1; clear n1
  go_enter Try.func93, Try.ntmps93
  go_wp2_with fail
  go_loopw [6, 8, 12, 17] (fun _ _ i _ wr => ∃ k : Nat, k ≤ n - 1 ∧ i = .int .i64 k ∧ Arr wr 94 (w.heap.size + 1) (ctRun ss k) ∧ Arr wr 94 w.heap.size [0, 0, 0, 0] ∧ Below w.heap.size w wr) (fun _ _ i _ _ => n - (intOf i).toNat)
  case atStart =>
    refine ⟨0, by omega, rfl, ?_, ?_, ((Below.refl _ _).alloc (Nat.le_refl _) _).alloc (by simp) _⟩
    · exact heap_alloc2_new _ _ _
    · exact heap_alloc2_old _ _ _
  case round =>
    obtain ⟨k, hk, rfl, hc, hz, hbel⟩ := hrel
    have HC := Lib.hid hc; clear hc
    have HZ := Lib.hid hz; clear hz
    by_cases hlt : k < n - 1
    · have hlt' := N1.out k hlt
      go_wp2_with fail
      obtain ⟨wo, rfl⟩ : ∃ wo : World, wo = wr := ⟨_, rfl⟩
      have hcl := HC.out.lt
      go_loopw [8, 17] (fun _ i wr => ∃ j : Nat, j ≤ ss.length ∧ i = .int .i64 j ∧ Arr wr 94 wo.heap.size (ctGo (ctRun ss k) (ss.take j) [0, 0, 0, 0]) ∧ Below wo.heap.size wo wr) (fun _ i _ => ss.length - (intOf i).toNat)
      case atStart => exact ⟨0, by omega, rfl, heap_alloc_new wo _, (Below.refl _ _).alloc (Nat.le_refl _) _⟩
      case round =>
        obtain ⟨j, hj, rfl, hnx, hbel2⟩ := hrel
        have hB2 := hbel.size
        have hB3 := hbel2.size
        by_cases hlt2 : j < ss.length
        · obtain ⟨s, hs⟩ := some_of_lt (l := ss) (k := j) hlt2
          obtain ⟨ad, rfl, hc⟩ := (HR.out.below (hbel.trans (hbel2.mono hB2)) (by omega)).at_ (map_at Value.string hs)
          obtain ⟨a, b, hL, ha1, ha2, hb1, hb2⟩ := pair_letters (HW.out s (List.mem_of_getElem? hs))
          have HT := Lib.hid (ctGo_take (cs := ctRun ss k) (nx := [0, 0, 0, 0]) hs); clear hs
          have hsz2 : s.size = 2 := by rw [← L_len, hL]; rfl
          have gs0 : s[0]'(by omega) = a := by
            have := s_at hL 0 (by omega); simpa using this
          have gs1 : s[1]'(by omega) = b := by
            have := s_at hL 1 (by omega); simpa using this
          obtain ⟨p, hp⟩ : ∃ p, la s 0 = p := ⟨_, rfl⟩
          obtain ⟨q, hq⟩ : ∃ q, la s 1 = q := ⟨_, rfl⟩
          have hpa : a.toNat - 97 = p := by rw [← hp, la, hL]; rfl
          have hqb : b.toNat - 97 = q := by rw [← hq, la, hL]; rfl
          have hp4 : (p : Int) < 4 := by omega
          have hq4 : (q : Int) < 4 := by omega
          have m1 : IntKind.u8.wrap ((a.toNat : Int) - 97) = (p : Int) := by rw [IntWalk.u8_in _ (by omega)]; omega
          have m2 : IntKind.u8.wrap ((b.toNat : Int) - 97) = (q : Int) := by rw [IntWalk.u8_in _ (by omega)]; omega
          obtain ⟨u, hu⟩ := some_of_lt (l := ctGo (ctRun ss k) (ss.take j) [0, 0, 0, 0]) (k := p) (by rw [ctGo_length]; simp; omega)
          obtain ⟨v, hv⟩ := some_of_lt (l := ctRun ss k) (k := q) (by rw [ctRun_length]; omega)
          have hcv := (HC.out.below hbel2 hcl).cell hv
          have hcell := hnx.cell hu
          have hfr := hnx.frozen p
          obtain ⟨r, hr⟩ : ∃ r, IntKind.i64.wrap (u + v) = r := ⟨_, rfl⟩
          have hst := hnx.store p r
          rw [show (ctGo (ctRun ss k) (ss.take j) [0, 0, 0, 0]).set p r = ctGo (ctRun ss k) (ss.take (j + 1)) [0, 0, 0, 0] from by
            rw [HT.out, ctStep1, hp, hq, List.getD_eq_getElem?_getD, List.getD_eq_getElem?_getD, hu, hv, ← hr, IntWalk.i64_left]; rfl] at hst
          have HST := Lib.hid hst; clear hst
          clear hu hv hnx hpa hqb hp hq hL HT
          go_wp2_with fail
          go_region
          all_goals
            clear m1 m2 hcell hfr hcv hc
            go_wp2_with fail
            go_roundw
            case rel => exact ⟨j + 1, by omega, by go_num, HST.out.dr (Dr.refl _).drew, (hbel2.trans (Below.setCell (p := ⟨wo.heap.size, p, none⟩) (Below.refl wo.heap.size wr) (Nat.le_refl _) _)).trans ((Dr.refl _).drew).below⟩
            case measure => simp [intOf]; omega
        · have h0 : ss.take j = ss := List.take_of_length_le (by omega)
          rw [h0] at hnx
          have hcr := HC.out.below hbel2 hcl
          have hzr := HZ.out.below hbel2 HZ.out.lt
          have hlen : (aCells (ctGo (ctRun ss k) ss [0, 0, 0, 0])).size = 4 := by simp [aCells, ctGo_length]
          have hlen2 : (aCells (ctRun ss k)).size = 4 := by simp [aCells, ctRun_length]
          have hone : (aCells (ctGo (ctRun ss k) ss [0, 0, 0, 0])).all (·.oneCell') = true := by
            simp [aCells, Value.oneCell']
          have HN := Lib.hid hnx; have HCR := Lib.hid hcr; have HZR := Lib.hid hzr
          have HLL := Lib.hid (And.intro hlen (And.intro hlen2 hone))
          clear hnx hcr hzr hlen hlen2 hone
          go_wp2_with (first
            | (refine wpList_load_row rfl 94 (.tmp 6) rfl wo.heap.size rfl 94 _ (0, 0) _ HN.out HI.out.1 rfl (HI.out.2.trans (congrArg some HLL.out.1.symm)) ?_)
            | (refine wpList_store_row rfl 94 (.tmp 5) (.tmp 34) rfl (w.heap.size + 1) _ rfl rfl 94 _ HCR.out (HI.out.2.trans (congrArg some HLL.out.1.symm)) (HLL.out.2.1.trans HLL.out.1.symm) HLL.out.2.2 ?_))
          go_roundw
          case rel => exact ⟨k + 1, by omega, by go_num, HCR.out.row _, (setRow_other _ _ _ _ (by omega)).trans HZR.out, (hbel.trans (hbel2.mono hB2)).trans (below_setRow (by omega) _)⟩
          case measure => simp [intOf]; omega
    · have hkn : k = n - 1 := by omega
      have hlt' : decide ((k : Int) < (n : Int) - 1) = false := by simp; omega
      have HK := Lib.hid hkn; clear hkn hlt hk
      have hlen : (aCells (ctRun ss k)).size = 4 := by simp [aCells, ctRun_length]
      have hone : (aCells (ctRun ss k)).all (·.oneCell') = true := by
        simp [aCells, Value.oneCell']
      have HLL := Lib.hid (And.intro hlen hone)
      clear hlen hone
      go_wp2_with (first
        | (refine wpList_load_row rfl 94 (.tmp 5) rfl (w.heap.size + 1) rfl 94 _ (0, 0) _ HC.out HI.out.1 rfl (HI.out.2.trans (congrArg some HLL.out.1.symm)) ?_)
        | (refine wpList_store_row rfl 94 (.tmp 4) (.tmp 36) rfl w.heap.size _ rfl rfl 94 _ HZ.out (HI.out.2.trans (congrArg some HLL.out.1.symm)) HLL.out.1.symm HLL.out.2 ?_))
      refine bodyPost_ret (v := .agg (aCells (ctRun ss k))) (results_cell_row rfl _ _ w.heap.size 94 _ (0, 0) _ rfl (HZ.out.row _) HI.out.1 rfl (HI.out.2.trans (congrArg some HLL.out.1.symm))) rfl ⟨by rw [← HK.out]; rfl, hbel.trans (below_setRow (Nat.le_refl _) _)⟩
theorem wrap64_add (a b : Int) : wrap64 (wrap64 a + b) = wrap64 (a + b) := by unfold wrap64; omega
set_option maxRecDepth 8000 in
set_option maxHeartbeats 1000000 in
theorem countAllowed_yes (n : Nat) (ss : List ByteArray) (A : Option Addr) (c B : Nat) (w : World) (hB : B ≤ w.heap.size) (h20 : n ≤ 20) (hp : ∀ s ∈ ss, pairW s = true) (hn : ss.length ≤ 4294967296) (hrd : Rds w B A (ss.map Value.string)) :
    Calls Try.prog 72 #[.int .i64 n, .slice A ss.length c] w fun e w' => e = .returned (.int .i64 (ctAll ss n)) ∧ Below w.heap.size w w' := by
  by_cases h0 : n = 0
  · subst h0
    go_enter Try.func72, Try.ntmps72
    go_wp2_with fail
    go_ret
    exact ⟨rfl, Below.refl _ _⟩
  · have hb0 : ((n : Int) == 0) = false := by simp; omega
    have hne : 1 ≤ n := by omega
    obtain ⟨v0, v1, v2, v3, hv⟩ : ∃ v0 v1 v2 v3, ctRun ss (n - 1) = [v0, v1, v2, v3] := by
      match hm : ctRun ss (n - 1), ctRun_length ss (n - 1) with
      | [a, b, c, d], _ => exact ⟨a, b, c, d, rfl⟩
    have hall : ctAll ss n = wrap64 (wrap64 (wrap64 (wrap64 (0 + v0) + v1) + v2) + v3) := by
      rw [ctAll, if_neg h0, hv, Int.zero_add, wrap64_add v0 v1]; rfl
    obtain ⟨r0, hr0⟩ : ∃ r, IntKind.i64.wrap v0 = r := ⟨_, rfl⟩
    obtain ⟨r1, hr1⟩ : ∃ r, IntKind.i64.wrap (r0 + v1) = r := ⟨_, rfl⟩
    obtain ⟨r2, hr2⟩ : ∃ r, IntKind.i64.wrap (r1 + v2) = r := ⟨_, rfl⟩
    obtain ⟨r3, hr3⟩ : ∃ r, IntKind.i64.wrap (r2 + v3) = r := ⟨_, rfl⟩
    have hres : r3 = ctAll ss n := by rw [hall, ← hr3, ← hr2, ← hr1, ← hr0, Int.zero_add]; simp only [IntWalk.i64_left]
    have HRES := Lib.hid hres
    have HV := Lib.hid hv
    clear hres hv hall h0
    have HC := Lib.hid (fun (w : World) (hB : B ≤ w.heap.size) => allowedCounts_yes n ss A c B w hB hne h20 hp hn)
    clear hp
    have i0 : ∀ w, (Instr.index 94 (.agg #[.int .i64 v0, .int .i64 v1, .int .i64 v2, .int .i64 v3]) (.int .i64 0)).run Try.prog w = .ok (.int .i64 v0) w := fun _ => by kernel_rfl
    have i1 : ∀ w, (Instr.index 94 (.agg #[.int .i64 v0, .int .i64 v1, .int .i64 v2, .int .i64 v3]) (.int .i64 1)).run Try.prog w = .ok (.int .i64 v1) w := fun _ => by kernel_rfl
    have i2 : ∀ w, (Instr.index 94 (.agg #[.int .i64 v0, .int .i64 v1, .int .i64 v2, .int .i64 v3]) (.int .i64 2)).run Try.prog w = .ok (.int .i64 v2) w := fun _ => by kernel_rfl
    have i3 : ∀ w, (Instr.index 94 (.agg #[.int .i64 v0, .int .i64 v1, .int .i64 v2, .int .i64 v3]) (.int .i64 3)).run Try.prog w = .ok (.int .i64 v3) w := fun _ => by kernel_rfl
    go_enter Try.func72, Try.ntmps72
    go_wp2_with fail
    refine (HC.out w hB hrd).mono ?_
    rw [HV.out]
    rintro e w1 ⟨rfl, b1⟩
    go_wp2_with fail
    go_loopw [5, 7, 13] (fun t _ i wr => ∃ k : Nat, k ≤ 4 ∧ i = .int .i64 k ∧ t = .int .i64 (if k = 0 then 0 else if k = 1 then r0 else if k = 2 then r1 else if k = 3 then r2 else r3) ∧ wr = w1) (fun _ _ i _ => 5 - (intOf i).toNat)
    case atStart => exact ⟨0, by omega, rfl, rfl, rfl⟩
    case round =>
      obtain ⟨k, hk, rfl, rfl, rfl⟩ := hrel
      have hk5 : k = 0 ∨ k = 1 ∨ k = 2 ∨ k = 3 ∨ k = 4 := by omega
      clear hk
      rcases hk5 with rfl | rfl | rfl | rfl | rfl
      · go_wp2_with fail
        go_roundw
        case rel => exact ⟨1, by omega, rfl, rfl, trivial⟩
        case measure => simp [intOf]
      · go_wp2_with fail
        go_roundw
        case rel => exact ⟨2, by omega, rfl, rfl, trivial⟩
        case measure => simp [intOf]
      · go_wp2_with fail
        go_roundw
        case rel => exact ⟨3, by omega, rfl, rfl, trivial⟩
        case measure => simp [intOf]
      · go_wp2_with fail
        go_roundw
        case rel => exact ⟨4, by omega, rfl, rfl, trivial⟩
        case measure => simp [intOf]
      · go_wp2_with fail
        go_ret
        exact ⟨ret_int HRES.out, b1⟩
set_option maxHeartbeats 400000 in
theorem iCountAllowed_yes (n : Nat) (ss : List ByteArray) (A : Option Addr) (c B : Nat) (w : World) (hB : B ≤ w.heap.size) (h20 : n ≤ 20) (hp : pairsOk ss = true) (hn : ss.length ≤ 4294967296) (hsz : ∀ s ∈ ss, s.size ≤ maxLen) (hrd : Rds w B A (ss.map Value.string)) :
    Calls Try.prog 42 #[.int .i64 n, .slice A ss.length c] w fun e w' => e = .returned (.int .i64 (ctAll ss n)) ∧ Below w.heap.size w w' := by
  have HZ := Lib.hid hsz; clear hsz
  have HR := Lib.hid hrd; clear hrd
  have HW := Lib.hid (prGo_all ss none hp)
  have HP := Lib.hid hp; clear hp
  go_enter Try.func42, Try.ntmps42
  go_wp2_with (first
    | (go_at_call 45; refine (within_yes _ _ _ ⟨by omega, by omega⟩ _).mono ?_; rintro e w' ⟨rfl, rfl⟩)
    | (go_at_call 71; refine (arePairs_any ss A c B _ hn HZ.out HR.out).mono ?_; rw [HP.out]; rintro e w1 ⟨rfl, d1⟩))
  have e1 := (d1.below (B := 0)).size
  refine (countAllowed_yes n ss A c B _ (by omega) h20 HW.out hn (HR.out.dr d1)).mono ?_
  rintro e w2 ⟨rfl, b2⟩
  go_wp2_with fail
  go_ret
  exact ⟨rfl, d1.below.trans (b2.mono e1)⟩
set_option maxHeartbeats 400000 in
theorem iCountAllowed_no (n : Int) (ss : List ByteArray) (A : Option Addr) (c B : Nat) (w : World) (h : ¬ ((0 ≤ n ∧ n ≤ 20) ∧ pairsOk ss = true)) (hn : ss.length ≤ 4294967296) (hsz : ∀ s ∈ ss, s.size ≤ maxLen) (hrd : Rds w B A (ss.map Value.string)) :
    Calls Try.prog 42 #[.int .i64 n, .slice A ss.length c] w fun e w' => e = .returned (.int .i64 (-1)) ∧ Dr w w' := by
  have HZ := Lib.hid hsz; clear hsz
  have HR := Lib.hid hrd; clear hrd
  by_cases h1 : 0 ≤ n ∧ n ≤ 20
  · have hp : pairsOk ss = false := by
      cases hq : pairsOk ss
      · rfl
      · exact absurd ⟨h1, hq⟩ h
    have HP := Lib.hid hp; clear hp h
    have H1 := Lib.hid h1; clear h1
    go_enter Try.func42, Try.ntmps42
    go_wp2_with (first
      | (go_at_call 45; refine (within_yes _ _ _ H1.out _).mono ?_; rintro e w' ⟨rfl, rfl⟩)
      | (go_at_call 71; refine (arePairs_any ss A c B _ hn HZ.out HR.out).mono ?_; rw [HP.out]; rintro e w1 ⟨rfl, d1⟩))
    go_ret
    exact ⟨rfl, d1⟩
  · have H1 := Lib.hid h1; clear h1 h
    go_enter Try.func42, Try.ntmps42
    go_wp2_with (go_at_call 45; refine (within_no _ _ _ H1.out _).mono ?_; rintro e w' ⟨rfl, rfl⟩)
    go_ret
    exact ⟨rfl, Dr.refl _⟩
def ctV (n : Int) (ss : List ByteArray) : Int := if (0 ≤ n ∧ n ≤ 20) ∧ pairsOk ss = true then ctAll ss n.toNat else -1
theorem iCountAllowed_any (n : Int) (ss : List ByteArray) (A : Option Addr) (c B : Nat) (w : World) (hB : B ≤ w.heap.size) (hn : ss.length ≤ 4294967296) (hsz : ∀ s ∈ ss, s.size ≤ maxLen) (hrd : Rds w B A (ss.map Value.string)) :
    Calls Try.prog 42 #[.int .i64 n, .slice A ss.length c] w fun e w' => e = .returned (.int .i64 (ctV n ss)) ∧ Below w.heap.size w w' := by
  by_cases h : (0 ≤ n ∧ n ≤ 20) ∧ pairsOk ss = true
  · rw [ctV, if_pos h]
    obtain ⟨⟨h1, h2⟩, h3⟩ := h
    obtain ⟨m, rfl⟩ := Int.eq_ofNat_of_zero_le h1
    exact iCountAllowed_yes m ss A c B w hB (by omega) h3 hn hsz hrd
  · rw [ctV, if_neg h]
    exact (iCountAllowed_no n ss A c B w h hn hsz hrd).mono fun e w' q => ⟨q.1, q.2.below⟩
end Go.Proofs.Ytfjmopiofcbpgaa
