/- Substitutions out of texts: ParseSubst, NamedSubst, FormatSubst of the reference. Asks the shelf's text (strings.Split). No condition but the bounds. -/
import Derived.Test.YtkmkaaomkjhlgaaDoorBok
import Derived.Test.YtkmkaaomkjhlgaaDoorSpl
import Derived.Test.YtkmkaaomkjhlgaaDoorJon
import Derived.Laws.ResultCell
namespace Go.Proofs.YtkmkaaomkjhlgaaDoor
open Go.RowKit
set_option linter.unusedVariables false

theorem splA_ne (c : UInt8) : ∀ (l cur : List UInt8), splA c cur l ≠ []
  | [], cur => by simp [splA]
  | x :: l, cur => by
    rw [splA]
    split
    · simp
    · exact splA_ne c l _
theorem splA_join (c : UInt8) : ∀ (l cur : List UInt8), Lib.join (splA c cur l) [c] = cur ++ l
  | [], cur => by rw [splA, Lib.join_one, List.append_nil]
  | x :: l, cur => by
    rw [splA]
    split
    · rename_i h
      have ih := splA_join c l []
      have hne := splA_ne c l []
      cases hs : splA c [] l with
      | nil => exact absurd hs hne
      | cons y r =>
        rw [hs, Lib.join_cons] at ih
        rw [Lib.join_cons, Lib.joinTail, List.map_cons, List.flatten_cons, ← Lib.joinTail, h]
        simp only [List.nil_append] at ih
        rw [List.append_assoc, ih]; rfl
    · rw [splA_join c l _]; simp
theorem splS_join (c : UInt8) (s : ByteArray) : jnS c (splS c s) = L s := by
  rw [jnS, splS, List.map_map, show (L ∘ strOf) = id from by funext l; exact strOf_L l, List.map_id, splA_join]; rfl
theorem jnS_length (c : UInt8) : ∀ (l : List ByteArray) (m : Nat), (∀ x ∈ l, x.size ≤ m) → (jnS c l).length ≤ l.length * (m + 1)
  | [], m, _ => by simp [jnS, Lib.join_nil]
  | x :: l, m, h => by
    have hx := h x List.mem_cons_self
    have h1 : ∀ r : List ByteArray, (∀ y ∈ r, y.size ≤ m) → (Lib.joinTail [c] (r.map L)).length ≤ r.length * (m + 1) := by
      intro r
      induction r with
      | nil => intro _; simp [Lib.joinTail]
      | cons y r ih =>
        intro hr
        have h2 := ih fun z hz => hr z (List.mem_cons_of_mem _ hz)
        have h3 := hr y List.mem_cons_self
        rw [List.map_cons, Lib.joinTail, List.map_cons, List.flatten_cons, ← Lib.joinTail, List.length_append, List.length_append, L_len, List.length_cons, List.length_cons, Nat.succ_mul]
        simp only [List.length_nil]
        omega
    have h2 := h1 l fun y hy => h y (List.mem_cons_of_mem _ hy)
    rw [jnS, List.map_cons, Lib.join_cons, List.length_append, L_len, List.length_cons, Nat.succ_mul]
    omega
theorem su_img {zs : List ByteArray} (h : suOk zs = true) : zs.length ≤ 4 ∧ ∀ x ∈ zs, x.size ≤ 8 := by
  rw [suOk, Bool.and_eq_true, List.all_eq_true, decide_eq_true_eq] at h
  refine ⟨h.2.2, fun x hx => ?_⟩
  have := h.1 x hx
  rw [imgOk, Bool.and_eq_true, decide_eq_true_eq] at this
  exact this.1.2
/-- The substitution that a text says. -/
def psV (s : ByteArray) : Option (List ByteArray) := if suOk (splS 44 s) then some (splS 44 s) else none
def psL (s : ByteArray) : List ByteArray := (psV s).getD []
theorem psV_no {s : ByteArray} (h : suOk (splS 44 s) = false) : psV s = none := by rw [psV, h]; rfl
theorem psV_yes {s : ByteArray} (h : suOk (splS 44 s) = true) : psV s = some (splS 44 s) := by rw [psV, if_pos h]
theorem psV_long {s : ByteArray} (h : 40 < s.size) : psV s = none := by
  apply psV_no
  cases h2 : suOk (splS 44 s)
  · rfl
  · obtain ⟨h3, h4⟩ := su_img h2
    have h5 := jnS_length 44 _ 8 h4
    rw [splS_join, L_len] at h5
    have : (splS 44 s).length * (8 + 1) ≤ 4 * (8 + 1) := Nat.mul_le_mul_right _ h3
    omega
theorem results_cell_tmp_row {P : Program} {fn : Func} {p u : Tmp} {ty : TypeId} (h : fn.results = #[.cell p ty, .tmp u]) (tmps : Array Value) (w : World) (g : Nat) (t : TypeId) (cs : Array Value) (fr : Nat × Nat) (d : TypeDesc)
    (hp : tmps.getD p undef = .pointer (some ⟨g, 0, none⟩)) (hg : w.heap[g]? = some (.cells cs t fr))
    (hu : P.underlying ty = some d) (hd : (match d with | .struct _ | .array _ _ => true | _ => false) = true) (hi : (P.info? ty).map (·.size) = some cs.size) :
    (results fn tmps).run P w = .ok (.tuple #[.agg cs, tmps.getD u undef]) w := by
  rw [results_cell_tmp h, hp]
  simp [asAddr, Result.andThen, run_loadVar_row w g t ty cs fr d hg hu hd hi]
set_option maxRecDepth 4000 in
set_option maxHeartbeats 1000000 in
theorem iParseSubst_any (s : ByteArray) (hs : s.size ≤ 1048576) (w : World) (hml : MlS w) :
    Calls Tryd.prog 34 #[.string s] w fun e w' => ∃ A c, e = .returned (.tuple #[.agg #[.slice A (psL s).length c], .bool (psV s).isSome]) ∧ Own w' w.heap.size 9 (.slice A (psL s).length c) ((psL s).map Value.string) ∧ Below w.heap.size w w' := by
  have hps : ∀ p ∈ splS 44 s, p.size ≤ 1048576 := fun p hp => Nat.le_trans (splS_size 44 s p hp) hs
  have hnl := splS_le 44 s
  have bA : Below w.heap.size w (w.alloc (.cells #[.slice none 0 0] 24)) := (Below.refl _ _).alloc (Nat.le_refl _) _
  have hsp := split_any s 44 (by omega) _ (hml.below bA)
  have hno := psV_no (s := s)
  have hyes := psV_yes (s := s)
  obtain ⟨ps, hpp⟩ : ∃ ps, splS 44 s = ps := ⟨_, rfl⟩
  rw [hpp] at hsp hps hnl hno hyes
  obtain ⟨n, hn⟩ : ∃ n, ps.length = n := ⟨_, rfl⟩
  have hso := fun A c B w' hB hr => iSubstOk_any ps A c B w' hB (by omega) (fun x hx => by have := hps x hx; unfold maxLen; omega) hr
  rw [hn] at hsp hnl hso
  have HSP := Lib.hid hsp; have HSO := Lib.hid hso; have HNO := Lib.hid hno; have HYES := Lib.hid hyes; have HN := Lib.hid hn
  have h0 := heap_alloc_new w (.cells #[.slice none 0 0] 24)
  have H0 := Lib.hid h0
  clear hsp hso hno hyes hn hps hpp hml h0 bA
  go_enter Tryd.func34, Tryd.ntmps34
  go_wp2_with fail
  refine HSP.out.mono ?_
  rintro e w1 ⟨gs, rfl, o1, b1⟩
  have z0 : (w.alloc (.cells #[.slice none 0 0] 24)).heap.size = w.heap.size + 1 := by simp
  have z1 := b1.size
  rw [z0] at z1 o1
  have bB : Below w1.heap.size w1 (w1.alloc (.cells #[.slice (some ⟨gs, 0, none⟩) n n] 24)) := (Below.refl _ _).alloc (Nat.le_refl _) _
  have hso := HSO.out (some ⟨gs, 0, none⟩) n _ _ bB.size (o1.reads.below bB (Nat.le_refl _))
  have HSO2 := Lib.hid hso; have O1 := Lib.hid o1; have B1 := Lib.hid b1; have BB := Lib.hid bB; have Z0 := Lib.hid z0
  clear hso o1 b1 bB z0
  cases hok : suOk ps
  · rw [hok] at HSO2
    have HV := Lib.hid (HNO.out hok)
    clear hok
    go_wp2_with (go_at_call 35; refine HSO2.out.mono ?_; rintro e w2 ⟨rfl, b2⟩; have q1 := (b2.block w.heap.size (by have := BB.out.size; omega)).trans ((BB.out.block w.heap.size (by omega)).trans ((B1.out.block w.heap.size (by rw [Z0.out]; omega)).trans H0.out)); have k1 := cell_of_row _ _ 0 _ _ (0, 0) q1; have f1 := frozen_of_row _ _ 0 _ _ q1)
    refine bodyPost_ret (results_cell_tmp_row rfl _ _ w.heap.size 24 _ (0, 0) _ rfl (box_set (k := 0) q1 (.slice none 0 0)) Tryd.underlying24 rfl (by kernel_rfl)) rfl ?_
    refine ⟨none, 0, by rw [psL, HV.out]; rfl, by rw [psL, HV.out]; exact Own.nil, ?_⟩
    have hw2 : Below w.heap.size w w2 := (((Below.refl _ _).alloc (Nat.le_refl _) _).trans (B1.out.mono (by rw [Z0.out]; omega))).trans ((BB.out.mono (by omega)).trans (b2.mono (by have := BB.out.size; omega)))
    exact hw2.setCell (Nat.le_refl _) _
  · rw [hok] at HSO2
    have HV := Lib.hid (HYES.out hok)
    clear hok
    go_wp2_with (go_at_call 35; refine HSO2.out.mono ?_; rintro e w2 ⟨rfl, b2⟩; have q1 := (b2.block w.heap.size (by have := BB.out.size; omega)).trans ((BB.out.block w.heap.size (by omega)).trans ((B1.out.block w.heap.size (by rw [Z0.out]; omega)).trans H0.out)); have k1 := cell_of_row _ _ 0 _ _ (0, 0) q1; have f1 := frozen_of_row _ _ 0 _ _ q1; have k2 := (b2.cell (p := ⟨w1.heap.size, 0, none⟩) (by simp)).trans (cell_of_row _ _ 0 _ _ (0, 0) (heap_alloc_new w1 (.cells #[.slice (some ⟨gs, 0, none⟩) n n] 24))))
    refine bodyPost_ret (results_cell_tmp_row rfl _ _ w.heap.size 24 _ (0, 0) _ rfl (box_set (k := 0) q1 (.slice (some ⟨gs, 0, none⟩) n n)) Tryd.underlying24 rfl (by kernel_rfl)) rfl ?_
    have hw2 : Below w.heap.size w w2 := (((Below.refl _ _).alloc (Nat.le_refl _) _).trans (B1.out.mono (by rw [Z0.out]; omega))).trans ((BB.out.mono (by omega)).trans (b2.mono (by have := BB.out.size; omega)))
    have ho := (((O1.out.below BB.out).below b2).far_set (g := w.heap.size) (k := 0) (by omega) (.slice (some ⟨gs, 0, none⟩) n n)).lower (B' := w.heap.size) (by omega)
    exact ⟨some ⟨gs, 0, none⟩, n, by rw [psL, HV.out]; show _ = Ending.returned (.tuple #[.agg #[.slice _ ps.length n], _]); rw [HN.out]; rfl, by rw [psL, HV.out]; show Own _ _ _ (.slice _ ps.length n) _; rw [HN.out]; exact ho, hw2.setCell (Nat.le_refl _) _⟩
/-- The text of a substitution. -/
def fsV (zs : List ByteArray) : ByteArray := if suOk zs then strOf (jnS 44 zs) else { data := #[] }
set_option maxHeartbeats 1000000 in
theorem sFormatSubst_any (zs : List ByteArray) (A : Option Addr) (n c B : Nat) (w : World) (hl : zs.length = n) (hB : B ≤ w.heap.size) (hn : n ≤ 4294967296) (hsz : ∀ s ∈ zs, s.size ≤ maxLen) (hrd : Rds w B A (zs.map Value.string)) :
    Calls Tryd.prog 53 #[.agg #[.slice A n c]] w fun e w' => e = .returned (.string (fsV zs)) ∧ Below w.heap.size w w' := by
  subst hl
  have bA : Below w.heap.size w (w.alloc (.cells #[.slice A zs.length c] 24)) := (Below.refl _ _).alloc (Nat.le_refl _) _
  have hso := sSubstOk_any zs A c B _ (Nat.le_trans hB bA.size) hn hsz (hrd.below bA hB)
  have h0 := heap_alloc_new w (.cells #[.slice A zs.length c] 24)
  have hz : w.heap.size < (w.alloc (.cells #[.slice A zs.length c] 24)).heap.size := by simp
  have H0 := Lib.hid h0; have BA := Lib.hid bA; have HZ := Lib.hid hz
  clear h0 bA hz
  cases hok : suOk zs
  · rw [hok] at hso
    have HV : Hid (fsV zs = { data := #[] }) := Lib.hid (by rw [fsV, hok]; rfl)
    have HSO := Lib.hid hso
    clear hso hok hrd hsz
    go_enter Tryd.func53, Tryd.ntmps53
    go_wp2_with (go_at_call 52; refine HSO.out.mono ?_; rintro e w2 ⟨rfl, b2⟩)
    go_ret
    exact ⟨by rw [HV.out]; rfl, BA.out.trans (b2.mono (by have := HZ.out; omega))⟩
  · rw [hok] at hso
    have HV : Hid (fsV zs = strOf (jnS 44 zs)) := Lib.hid (by rw [fsV, if_pos hok])
    obtain ⟨h4, h8⟩ := su_img hok
    have hj := fun w' r => sJoinS_any 44 zs A c B w' (by omega) (fun x hx => by have := h8 x hx; omega) r
    have HSO := Lib.hid hso; have HJ := Lib.hid hj; have HRD := Lib.hid hrd
    clear hso hok hrd hsz hj
    go_enter Tryd.func53, Tryd.ntmps53
    go_wp2_with (first
      | (go_at_call 52; refine HSO.out.mono ?_; rintro e w2 ⟨rfl, b2⟩; have k2 := (b2.cell (p := ⟨w.heap.size, 0, none⟩) HZ.out).trans (cell_of_row _ _ 0 _ _ (0, 0) H0.out))
      | (go_at_call 62; refine (HJ.out _ (HRD.out.below (BA.out.trans (b2.mono (by have := HZ.out; omega))) hB)).mono ?_; rintro e w3 ⟨rfl, rfl⟩))
    go_ret
    exact ⟨by rw [HV.out]; rfl, BA.out.trans (b2.mono (by have := HZ.out; omega))⟩
set_option maxRecDepth 4000 in
set_option maxHeartbeats 1000000 in
theorem sParseSubst_any (s : ByteArray) (hs : s.size ≤ 1048576) (w : World) :
    Calls Tryd.prog 40 #[.string s] w fun e w' => ∃ A c, e = .returned (.tuple #[.agg #[.slice A (psL s).length c], .bool (psV s).isSome]) ∧ Own w' w.heap.size 9 (.slice A (psL s).length c) ((psL s).map Value.string) ∧ Below w.heap.size w w' := by
  have hps : ∀ p ∈ splS 44 s, p.size ≤ 1048576 := fun p hp => Nat.le_trans (splS_size 44 s p hp) hs
  have hnl := splS_le 44 s
  have bA : Below w.heap.size w (w.alloc (.cells #[.slice none 0 0] 24)) := (Below.refl _ _).alloc (Nat.le_refl _) _
  have h0 := heap_alloc_new w (.cells #[.slice none 0 0] 24)
  by_cases h40 : 40 < s.size
  · have HV := Lib.hid (psV_long h40)
    have h41 : (40 : Int) < (s.size : Int) := by omega
    have k1 := cell_of_row _ _ 0 _ _ (0, 0) h0
    have f1 := frozen_of_row _ _ 0 _ _ h0
    go_enter Tryd.func40, Tryd.ntmps40
    go_wp2_with fail
    refine bodyPost_ret (results_cell_tmp_row rfl _ _ w.heap.size 24 _ (0, 0) _ rfl h0 Tryd.underlying24 rfl (by kernel_rfl)) rfl ?_
    exact ⟨none, 0, by rw [psL, HV.out]; rfl, by rw [psL, HV.out]; exact Own.nil, bA⟩
  have h41 : decide ((40 : Int) < (s.size : Int)) = false := decide_eq_false (by omega)
  have h42 : decide (40 < s.size) = false := decide_eq_false h40
  have hsp := sSplitAny_any s 44 hs (w.alloc (.cells #[.slice none 0 0] 24))
  have hno := psV_no (s := s)
  have hyes := psV_yes (s := s)
  have hfj : suOk (splS 44 s) = true → fsV (splS 44 s) = s := fun h => by rw [fsV, if_pos h, splS_join, strOf_of_L]
  obtain ⟨ps, hpp⟩ : ∃ ps, splS 44 s = ps := ⟨_, rfl⟩
  rw [hpp] at hsp hps hnl hno hyes hfj
  obtain ⟨n, hn⟩ : ∃ n, ps.length = n := ⟨_, rfl⟩
  have hso := fun A c B w' hB hr => sSubstOk_any ps A c B w' hB (by omega) (fun x hx => by have := hps x hx; unfold maxLen; omega) hr
  have hfs := fun A c B w' hB hr => sFormatSubst_any ps A n c B w' hn hB (by omega) (fun x hx => by have := hps x hx; unfold maxLen; omega) hr
  rw [hn] at hsp hnl hso
  have HSP := Lib.hid hsp; have HSO := Lib.hid hso; have HNO := Lib.hid hno; have HYES := Lib.hid hyes; have HN := Lib.hid hn; have HFS := Lib.hid hfs; have HFJ := Lib.hid hfj
  have H0 := Lib.hid h0
  clear hsp hso hno hyes hn hps hpp h0 bA hfs hfj h40
  go_enter Tryd.func40, Tryd.ntmps40
  go_wp2_with fail
  refine HSP.out.mono ?_
  rintro e w1 ⟨gs, cs, rfl, o1, b1⟩
  have z0 : (w.alloc (.cells #[.slice none 0 0] 24)).heap.size = w.heap.size + 1 := by simp
  have z1 := b1.size
  rw [z0] at z1 o1
  have bB : Below w1.heap.size w1 (w1.alloc (.cells #[.slice (some ⟨gs, 0, none⟩) n cs] 24)) := (Below.refl _ _).alloc (Nat.le_refl _) _
  have hrB := o1.reads.below bB (Nat.le_refl _)
  have hso := HSO.out (some ⟨gs, 0, none⟩) cs _ _ bB.size hrB
  have HSO2 := Lib.hid hso; have O1 := Lib.hid o1; have B1 := Lib.hid b1; have BB := Lib.hid bB; have Z0 := Lib.hid z0; have HRB := Lib.hid hrB
  clear hso o1 b1 bB z0 hrB
  cases hok : suOk ps
  · rw [hok] at HSO2
    have HV := Lib.hid (HNO.out hok)
    clear hok
    go_wp2_with (go_at_call 52; refine HSO2.out.mono ?_; rintro e w2 ⟨rfl, b2⟩; have q1 := (b2.block w.heap.size (by have := BB.out.size; omega)).trans ((BB.out.block w.heap.size (by omega)).trans ((B1.out.block w.heap.size (by rw [Z0.out]; omega)).trans H0.out)); have k1 := cell_of_row _ _ 0 _ _ (0, 0) q1; have f1 := frozen_of_row _ _ 0 _ _ q1)
    refine bodyPost_ret (results_cell_tmp_row rfl _ _ w.heap.size 24 _ (0, 0) _ rfl (box_set (k := 0) q1 (.slice none 0 0)) Tryd.underlying24 rfl (by kernel_rfl)) rfl ?_
    refine ⟨none, 0, by rw [psL, HV.out]; rfl, by rw [psL, HV.out]; exact Own.nil, ?_⟩
    have hw2 : Below w.heap.size w w2 := (((Below.refl _ _).alloc (Nat.le_refl _) _).trans (B1.out.mono (by rw [Z0.out]; omega))).trans ((BB.out.mono (by omega)).trans (b2.mono (by have := BB.out.size; omega)))
    exact hw2.setCell (Nat.le_refl _) _
  · rw [hok] at HSO2
    have HV := Lib.hid (HYES.out hok)
    have hfs := fun w' hB hr => HFS.out (some ⟨gs, 0, none⟩) cs w1.heap.size w' hB hr
    simp only [HFJ.out hok] at hfs
    have HFS2 := Lib.hid hfs
    clear hok hfs
    go_wp2_with (first
      | (go_at_call 52; refine HSO2.out.mono ?_; rintro e w2 ⟨rfl, b2⟩; have k2 := (b2.cell (p := ⟨w1.heap.size, 0, none⟩) (by simp)).trans (cell_of_row _ _ 0 _ _ (0, 0) (heap_alloc_new w1 (.cells #[.slice (some ⟨gs, 0, none⟩) n cs] 24))))
      | (go_at_call 53; refine (HFS2.out _ (Nat.le_trans BB.out.size b2.size) (HRB.out.below b2 BB.out.size)).mono ?_; rintro e w3 ⟨rfl, b3⟩; have b23 := b2.trans (b3.mono b2.size); have q1 := (b23.block w.heap.size (by have := BB.out.size; omega)).trans ((BB.out.block w.heap.size (by omega)).trans ((B1.out.block w.heap.size (by rw [Z0.out]; omega)).trans H0.out)); have k1 := cell_of_row _ _ 0 _ _ (0, 0) q1; have f1 := frozen_of_row _ _ 0 _ _ q1; have k3 := (b3.cell (p := ⟨w1.heap.size, 0, none⟩) (Nat.lt_of_lt_of_le (by simp) b2.size)).trans k2))
    refine bodyPost_ret (results_cell_tmp_row rfl _ _ w.heap.size 24 _ (0, 0) _ rfl (box_set (k := 0) q1 (.slice (some ⟨gs, 0, none⟩) n cs)) Tryd.underlying24 rfl (by kernel_rfl)) rfl ?_
    have hw2 : Below w.heap.size w w3 := (((Below.refl _ _).alloc (Nat.le_refl _) _).trans (B1.out.mono (by rw [Z0.out]; omega))).trans ((BB.out.mono (by omega)).trans (b23.mono (by have := BB.out.size; omega)))
    have ho := (((O1.out.below BB.out).below b23).far_set (g := w.heap.size) (k := 0) (by omega) (.slice (some ⟨gs, 0, none⟩) n cs)).lower (B' := w.heap.size) (by omega)
    exact ⟨some ⟨gs, 0, none⟩, cs, by rw [psL, HV.out]; show _ = Ending.returned (.tuple #[.agg #[.slice _ ps.length cs], _]); rw [HN.out]; rfl, by rw [psL, HV.out]; show Own _ _ _ (.slice _ ps.length cs) _; rw [HN.out]; exact ho, hw2.setCell (Nat.le_refl _) _⟩
end Go.Proofs.YtkmkaaomkjhlgaaDoor
