/- FaultAt, IsAllowed, both: the first place where two neighbors are not an allowed pair; whether all are allowed. -/
import Derived.Test.YtfjmopiofcbpgaaPair
namespace Go.Proofs.Ytfjmopiofcbpgaa
open Go.RowKit
set_option linter.unusedVariables false

/-- Whether a word and a list of pairs may be asked about. -/
def repOk (s : ByteArray) (ss : List ByteArray) : Bool := isW (L s) && decide (s.size ≤ 40) && pairsOk ss
def two (s : ByteArray) (k : Nat) : ByteArray := s.extract (k - 1) (k + 1)
def faGo (ss : List ByteArray) (s : ByteArray) : Nat → Nat → Int
  | 0, _ => -1
  | n + 1, k => if hasS ss (two s k) = true then faGo ss s n (k + 1) else k
def faultOf (s : ByteArray) (ss : List ByteArray) : Int := if repOk s ss = true then faGo ss s (s.size - 1) 1 else -1

set_option maxHeartbeats 400000 in
theorem areRepaired_any (s : ByteArray) (ss : List ByteArray) (A : Option Addr) (c B : Nat) (w : World) (hs : s.size ≤ maxLen) (hn : ss.length ≤ 4294967296) (hsz : ∀ s ∈ ss, s.size ≤ maxLen) (hrd : Rds w B A (ss.map Value.string)) :
    Calls Try.prog 66 #[.string s, .slice A ss.length c] w fun e w' => e = .returned (.bool (repOk s ss)) ∧ Dr w w' := by
  have HZ := Lib.hid hsz; clear hsz
  have HR := Lib.hid hrd; clear hrd
  cases h1 : isW (L s)
  · have H1 := Lib.hid h1; clear h1
    go_enter Try.func66, Try.ntmps66
    go_wp2_with (go_at_call 46; refine (isWord_is s _ hs H1.out _).mono ?_; rintro e w' ⟨rfl, rfl⟩)
    go_ret
    exact ⟨ret_bool (by rw [repOk, H1.out]; rfl), Dr.refl _⟩
  · have H1 := Lib.hid h1; clear h1
    by_cases h2 : s.size ≤ 40
    · have h2b : decide ((s.size : Int) ≤ 40) = true := by simp; omega
      have H2 := Lib.hid h2; clear h2
      go_enter Try.func66, Try.ntmps66
      go_wp2_with (go_at_call 46; refine (isWord_is s _ hs H1.out _).mono ?_; rintro e w' ⟨rfl, rfl⟩)
      refine (arePairs_any ss A c B _ hn HZ.out HR.out).mono ?_
      rintro e w1 ⟨rfl, d1⟩
      go_wp2_with fail
      go_ret
      exact ⟨ret_bool (by rw [repOk, H1.out, decide_eq_true H2.out]; rfl), d1⟩
    · have h2b : decide ((s.size : Int) ≤ 40) = false := by simp; omega
      have H2 := Lib.hid h2; clear h2
      go_enter Try.func66, Try.ntmps66
      go_wp2_with (go_at_call 46; refine (isWord_is s _ hs H1.out _).mono ?_; rintro e w' ⟨rfl, rfl⟩)
      go_ret
      exact ⟨ret_bool (by rw [repOk, H1.out, decide_eq_false H2.out]; rfl), Dr.refl _⟩
set_option maxHeartbeats 400000 in
theorem iFaultAt_any (s : ByteArray) (ss : List ByteArray) (A : Option Addr) (c B : Nat) (w : World) (hs : s.size ≤ maxLen) (hn : ss.length ≤ 4294967296) (hsz : ∀ s ∈ ss, s.size ≤ maxLen) (hrd : Rds w B A (ss.map Value.string)) :
    Calls Try.prog 41 #[.string s, .slice A ss.length c] w fun e w' => e = .returned (.int .i64 (faultOf s ss)) ∧ Dr w w' := by
  have HZ := Lib.hid hsz; clear hsz
  have HR := Lib.hid hrd; clear hrd
  have hs2 := hs
  unfold maxLen at hs2
  cases h1 : repOk s ss
  · have H1 := Lib.hid h1; clear h1
    go_enter Try.func41, Try.ntmps41
    go_wp2_with fail
    refine (areRepaired_any s ss A c B _ hs hn HZ.out HR.out).mono ?_
    rw [H1.out]
    rintro e w1 ⟨rfl, d1⟩
    go_wp2_with fail
    go_ret
    exact ⟨ret_int (by rw [faultOf, H1.out]; rfl), d1⟩
  · have h3 : faultOf s ss = faGo ss s (s.size - 1) 1 := by rw [faultOf, h1]; rfl
    have H1 := Lib.hid h1; clear h1
    have H3 := Lib.hid h3; clear h3
    go_enter Try.func41, Try.ntmps41
    go_wp2_with fail
    refine (areRepaired_any s ss A c B _ hs hn HZ.out HR.out).mono ?_
    rw [H1.out]
    rintro e w1 ⟨rfl, d1⟩
    go_wp2_with fail
    go_loopw [5] (fun i wr => ∃ k n : Nat, 1 ≤ k ∧ k + n = (s.size - 1) + 1 ∧ i = .int .i64 k ∧ faGo ss s n k = faultOf s ss ∧ Dr w wr) (fun i _ => s.size + 1 - (intOf i).toNat)
    case atStart => exact ⟨1, s.size - 1, by omega, by omega, rfl, H3.out.symm, d1⟩
    case round =>
      clear d1 H3
      obtain ⟨k, n, hk, hkn, rfl, hg, hd⟩ := hrel
      have HG := Lib.hid hg; clear hg
      have n1 : k + n ≤ (s.size - 1) + 1 := by omega
      have n2 : (s.size - 1) + 1 ≤ k + n := by omega
      clear hkn
      by_cases hlt : k < s.size
      · obtain ⟨m, rfl⟩ : ∃ m, n = m + 1 := ⟨n - 1, by omega⟩
        have HR1 := Lib.hid (HR.out.dr hd)
        cases hh : hasS ss (two s k)
        · have HH := Lib.hid hh; clear hh
          have hq : decide (atIx ss (two s k) < 0) = true := by rw [hasS_lt, HH.out]; rfl
          go_wp2_with fail
          refine (containsS_any ss (two s k) A c B _ hn HR1.out).mono ?_
          try rw [HH.out]
          rintro e w2 ⟨rfl, d2⟩
          go_wp2_with fail
          go_ret
          exact ⟨ret_int (by rw [← HG.out, faGo, HH.out]; rfl), hd.trans d2⟩
        · have HH := Lib.hid hh; clear hh
          have hq : decide (atIx ss (two s k) < 0) = false := by rw [hasS_lt, HH.out]; rfl
          go_wp2_with fail
          refine (containsS_any ss (two s k) A c B _ hn HR1.out).mono ?_
          try rw [HH.out]
          rintro e w2 ⟨rfl, d2⟩
          go_wp2_with fail
          go_roundw
          case rel => exact ⟨k + 1, m, by omega, by omega, by go_num, by rw [← HG.out, faGo, if_pos HH.out], hd.trans d2⟩
          case measure => simp [intOf]; omega
      · have h0 : n = 0 := by omega
        subst h0
        go_wp2_with fail
        go_ret
        exact ⟨ret_int (by rw [← HG.out]; rfl), hd⟩
/-- The pairs of neighbors of a word; the first k of them. -/
def prsTo (s : ByteArray) (k : Nat) : List ByteArray := (List.range k).map fun i => two s (i + 1)
def prs (s : ByteArray) : List ByteArray := prsTo s (s.size - 1)
theorem prsTo_length (s : ByteArray) (k : Nat) : (prsTo s k).length = k := by simp [prsTo]
theorem prsTo_succ (s : ByteArray) (k : Nat) : prsTo s (k + 1) = prsTo s k ++ [two s (k + 1)] := by simp [prsTo, List.range_succ]
def prsL (ps : List ByteArray) : List ByteArray := ps.flatMap prs
theorem prsL_snoc (ps : List ByteArray) (s : ByteArray) : prsL (ps ++ [s]) = prsL ps ++ prs s := by simp [prsL]
theorem prsL_take {ps : List ByteArray} {k : Nat} {s : ByteArray} (h : ps[k]? = some s) : prsL (ps.take (k + 1)) = prsL (ps.take k) ++ prs s := by
  rw [List.take_add_one, h]; exact prsL_snoc _ _
theorem prsL_take_le (ps : List ByteArray) (k : Nat) : (prsL (ps.take k)).length ≤ (prsL ps).length := by
  have h : prsL ps = prsL (ps.take k) ++ prsL (ps.drop k) := by
    unfold prsL; rw [← List.flatMap_append, List.take_append_drop]
  rw [h, List.length_append]; omega
/-- How many of the strings ws are not among ss. -/
def outs (ss : List ByteArray) : List ByteArray → Nat
  | [] => 0
  | x :: r => (if hasS ss x = true then 0 else 1) + outs ss r
theorem outs_append (ss : List ByteArray) : ∀ (a b : List ByteArray), outs ss (a ++ b) = outs ss a + outs ss b
  | [], b => by simp [outs]
  | x :: a, b => by simp only [List.cons_append, outs]; rw [outs_append ss a b]; omega
theorem outs_le (ss : List ByteArray) : ∀ (a : List ByteArray), outs ss a ≤ a.length
  | [] => Nat.le_refl _
  | x :: a => by have := outs_le ss a; simp only [outs, List.length_cons]; split <;> omega
theorem outs_take {ss ws : List ByteArray} {k : Nat} {x : ByteArray} (h : ws[k]? = some x) : outs ss (ws.take (k + 1)) = outs ss (ws.take k) + (if hasS ss x = true then 0 else 1) := by
  rw [List.take_add_one, h, outs_append]; rfl

set_option maxHeartbeats 1000000 in
theorem pairsOf_any (ps : List ByteArray) (A : Option Addr) (c B : Nat) (w : World) (hB : B ≤ w.heap.size) (hn : ps.length ≤ 1000000) (hsz : ∀ s ∈ ps, s.size ≤ maxLen) (hm : (prsL ps).length ≤ 1000000000) (hrd : Rds w B A (ps.map Value.string)) :
    Calls Try.prog 69 #[.slice A ps.length c] w fun e w' => ∃ A' c', e = .returned (.slice A' (prsL ps).length c') ∧ Own w' w.heap.size 9 (.slice A' (prsL ps).length c') ((prsL ps).map Value.string) ∧ Below w.heap.size w w' := by
  have HZ := Lib.hid hsz; clear hsz
  have HR := Lib.hid hrd; clear hrd
  have HM := Lib.hid hm; clear hm
  go_enter Try.func69, Try.ntmps69
  go_wp2_with fail
  go_loopw [3, 5, 6, 10] (fun v _ _ i wr => ∃ k : Nat, ∃ n A c, k ≤ ps.length ∧ i = .int .i64 k ∧ v = .slice A n c ∧ (prsL (ps.take k)).length = n ∧ Own wr w.heap.size 9 (.slice A n c) ((prsL (ps.take k)).map Value.string) ∧ Below w.heap.size w wr) (fun _ _ _ i _ => ps.length - (intOf i).toNat)
  case atStart => exact ⟨0, 0, _, _, by omega, rfl, rfl, rfl, Own.empty (Nat.le_refl _), (Below.refl _ _).alloc (Nat.le_refl _) _⟩
  case round =>
    obtain ⟨k, n, A1, c1, hk, rfl, rfl, hln, hown, hbel⟩ := hrel
    have HL := Lib.hid hln; clear hln
    have HO := Lib.hid hown; clear hown
    by_cases hlt : k < ps.length
    · obtain ⟨s, hs⟩ := some_of_lt (l := ps) (k := k) hlt
      have hz := HZ.out s (List.mem_of_getElem? hs)
      unfold maxLen at hz
      obtain ⟨ad, rfl, hc⟩ := (HR.out.below hbel hB).at_ (map_at Value.string hs)
      have HT := Lib.hid (prsL_take hs); clear hs
      have hm2 : n + (s.size - 1) ≤ 1000000000 := by
        have h1 := prsL_take_le ps (k + 1)
        rw [HT.out, List.length_append, HL.out, prs, prsTo_length] at h1
        have := HM.out
        omega
      go_wp2_with fail
      obtain ⟨wo, rfl⟩ : ∃ wo : World, wo = wr := ⟨_, rfl⟩
      go_loopw [3, 6] (fun v i wr => ∃ j m : Nat, ∃ x : Int, ∃ A c, j ≤ s.size - 1 ∧ m = n + j ∧ x = j + 1 ∧ i = .int .i64 x ∧ v = .slice A m c ∧ Own wr w.heap.size 9 (.slice A m c) ((prsL (ps.take k) ++ prsTo s j).map Value.string) ∧ Below w.heap.size w wr) (fun _ i _ => s.size + 1 - (intOf i).toNat)
      case atStart => exact ⟨0, n, 1, A1, c1, by omega, rfl, rfl, rfl, rfl, by rw [show prsTo s 0 = [] from rfl, List.append_nil]; exact HO.out, hbel⟩
      case round =>
        clear hbel HO hc
        obtain ⟨j, m, x, A2, c2, hj, hmn, hx, rfl, rfl, hown, hbel⟩ := hrel
        have HO := Lib.hid hown; clear hown
        have x1 : 1 ≤ x := by omega
        have x2 : x ≤ (j : Int) + 1 := by omega
        have x3 : (j : Int) + 1 ≤ x := by omega
        have HX := Lib.hid hx; clear hx
        have HMN := Lib.hid hmn
        have m1 : m ≤ 1000000000 := by omega
        clear hmn
        by_cases hlt2 : x < s.size
        · have hj2 : j < s.size - 1 := by omega
          have hxt : s.extract (x.toNat - 1) (x + 1).toNat = two s (j + 1) := by
            unfold two; congr 1 <;> omega
          have HXT := Lib.hid hxt; clear hxt
          have HS := Lib.hid (prsTo_succ s j)
          go_wp2_with (at_builtin; refine wp_append1 rfl (.tmp 20) (.tmp 27) 36 rfl _ 16 Try.underlying36 info_string rfl rfl HO.out _ rfl rfl m ?n1 ?n2 ?n3 ?n4 ?_)
          case n1 => rw [List.length_map, List.length_append, HL.out, prsTo_length, HMN.out]
          case n2 => omega
          case n3 => decide
          case n4 => exact hbel.size
          intro A' c' w2 hown2 hbel2 hsz2
          rw [HXT.out, show (prsL (ps.take k)).map Value.string ++ ((prsTo s j).map Value.string ++ [Value.string (two s (j + 1))]) = ((prsL (ps.take k) ++ prsTo s (j + 1)).map Value.string) from by rw [HS.out]; simp] at hown2
          have HO2 := Lib.hid hown2; clear hown2
          go_wp2_with fail
          go_roundw
          case rel => exact ⟨j + 1, m + 1, x + 1, A', c', by omega, by have := HMN.out; omega, by omega, rfl, rfl, HO2.out, hbel.trans hbel2⟩
          case measure => simp [intOf]; omega
        · have hj2 : j = s.size - 1 := by omega
          subst hj2
          go_wp2_with fail
          go_roundw
          case rel => exact ⟨k + 1, m, A2, c2, by omega, by go_num, rfl, by rw [HT.out, List.length_append, HL.out, prs, prsTo_length, HMN.out], by rw [HT.out]; exact HO.out, hbel⟩
          case measure => simp [intOf]; omega
    · have h0 : ps.take k = ps := List.take_of_length_le (by omega)
      rw [h0] at HL HO
      have hll := HL.out
      subst hll
      go_wp2_with fail
      go_ret
      exact ⟨A1, c1, rfl, HO.out, hbel⟩
set_option maxHeartbeats 400000 in
theorem countOutside_any (ws ss : List ByteArray) (A A' : Option Addr) (c c' B B' : Nat) (w : World) (hm : ws.length ≤ 1000000000) (hn : ss.length ≤ 4294967296) (hrw : Rds w B A (ws.map Value.string)) (hrd : Rds w B' A' (ss.map Value.string)) :
    Calls Try.prog 68 #[.slice A ws.length c, .slice A' ss.length c'] w fun e w' => e = .returned (.int .i64 (outs ss ws : Nat)) ∧ Dr w w' := by
  have HR := Lib.hid hrd; clear hrd
  have HW := Lib.hid hrw; clear hrw
  go_enter Try.func68, Try.ntmps68
  go_wp2_with fail
  go_loopw [5, 7, 10] (fun v _ i wr => ∃ k n : Nat, k ≤ ws.length ∧ n ≤ k ∧ i = .int .i64 k ∧ v = .int .i64 n ∧ outs ss (ws.take k) = n ∧ Dr w wr) (fun _ _ i _ => ws.length - (intOf i).toNat)
  case atStart => exact ⟨0, 0, by omega, by omega, rfl, rfl, rfl, Dr.refl _⟩
  case round =>
    obtain ⟨k, n, hk, hnk, rfl, rfl, ho, hd⟩ := hrel
    have HO := Lib.hid ho; clear ho
    by_cases hlt : k < ws.length
    · obtain ⟨x, hx⟩ := some_of_lt (l := ws) (k := k) hlt
      obtain ⟨ad, rfl, hc⟩ := (HW.out.dr hd).at_ (map_at Value.string hx)
      have HT := Lib.hid (outs_take (ss := ss) hx); clear hx
      have HR1 := Lib.hid (HR.out.dr hd)
      cases hh : hasS ss x
      · have HH := Lib.hid hh; clear hh
        go_wp2_with fail
        refine (containsS_any ss x A' c' B' _ hn HR1.out).mono ?_
        rw [HH.out]
        rintro e w2 ⟨rfl, d2⟩
        go_wp2_with fail
        go_roundw
        case rel => exact ⟨k + 1, n + 1, by omega, by omega, by go_num, by go_num, by rw [HT.out, HO.out, HH.out]; rfl, hd.trans d2⟩
        case measure => simp [intOf]; omega
      · have HH := Lib.hid hh; clear hh
        go_wp2_with fail
        refine (containsS_any ss x A' c' B' _ hn HR1.out).mono ?_
        rw [HH.out]
        rintro e w2 ⟨rfl, d2⟩
        go_wp2_with fail
        go_roundw
        case rel => exact ⟨k + 1, n, by omega, by omega, by go_num, by go_num, by rw [HT.out, HO.out, HH.out]; rfl, hd.trans d2⟩
        case measure => simp [intOf]; omega
    · have h0 : ws.take k = ws := List.take_of_length_le (by omega)
      rw [h0] at HO
      go_wp2_with fail
      go_ret
      exact ⟨ret_int (by rw [HO.out]), hd⟩
def allowB (s : ByteArray) (ss : List ByteArray) : Bool := repOk s ss && decide (outs ss (prsL [s]) = 0)
theorem repOk_size {s : ByteArray} {ss : List ByteArray} (h : repOk s ss = true) : s.size ≤ 40 := by
  unfold repOk at h
  simp at h
  exact h.1.2
theorem prsL_one (s : ByteArray) : (prsL [s]).length = s.size - 1 := by simp [prsL, prs, prsTo_length]
set_option maxHeartbeats 400000 in
theorem iIsAllowed_any (s : ByteArray) (ss : List ByteArray) (A : Option Addr) (c B : Nat) (w : World) (hB : B ≤ w.heap.size) (hs : s.size ≤ maxLen) (hn : ss.length ≤ 4294967296) (hsz : ∀ s ∈ ss, s.size ≤ maxLen) (hrd : Rds w B A (ss.map Value.string)) :
    Calls Try.prog 40 #[.string s, .slice A ss.length c] w fun e w' => e = .returned (.bool (allowB s ss)) ∧ Below w.heap.size w w' := by
  have HZ := Lib.hid hsz; clear hsz
  have HR := Lib.hid hrd; clear hrd
  cases h1 : repOk s ss
  · have H1 := Lib.hid h1; clear h1
    go_enter Try.func40, Try.ntmps40
    go_wp2_with fail
    refine (areRepaired_any s ss A c B _ hs hn HZ.out HR.out).mono ?_
    rw [H1.out]
    rintro e w1 ⟨rfl, d1⟩
    go_wp2_with fail
    go_ret
    exact ⟨ret_bool (by rw [allowB, H1.out]; rfl), d1.below⟩
  · have h40 := repOk_size h1
    have hl := prsL_one s
    have H1 := Lib.hid h1; clear h1
    have hl2 : (prsL [s]).length ≤ 40 := by omega
    clear hl
    obtain ⟨q, hq⟩ : ∃ q, outs ss (prsL [s]) = q := ⟨_, rfl⟩
    have hb : ((q : Int) == 0) = decide (q = 0) := by
      by_cases h : q = 0
      · subst h; rfl
      · rw [decide_eq_false h]; simp; omega
    have HQ := Lib.hid hq; clear hq
    go_enter Try.func40, Try.ntmps40
    go_wp2_with fail
    refine (areRepaired_any s ss A c B _ hs hn HZ.out HR.out).mono ?_
    rw [H1.out]
    rintro e w1 ⟨rfl, d1⟩
    have e1 := (d1.below (B := 0)).size
    go_wp2_with fail
    refine (pairsOf_any [s] (some ⟨w1.heap.size, 0, none⟩) 1 _ _ (Nat.le_refl _) (by simp) (by intro x hx; simp at hx; subst hx; exact hs) (by omega) (Own.one (B := 0) (Nat.zero_le _)).reads).mono ?_
    rintro e w2 ⟨A2, c2, rfl, o2, b2⟩
    have b12 : Below w1.heap.size w1 w2 := ((Below.refl _ _).alloc (Nat.le_refl _) _).trans (b2.mono (by simp))
    clear b2
    go_wp2_with fail
    refine (countOutside_any (prsL [s]) ss A2 A c2 c _ B _ (by omega) hn o2.reads ((HR.out.dr d1).below b12 (by omega))).mono ?_
    rw [HQ.out]
    rintro e w3 ⟨rfl, d3⟩
    go_wp2_with fail
    go_ret
    exact ⟨ret_bool (by rw [allowB, H1.out, HQ.out]; rfl), (d1.below.trans (b12.mono e1)).trans d3.below⟩
end Go.Proofs.Ytfjmopiofcbpgaa
