/- CountAvoiding, both, walked. Asks the shelf's text. No condition but the bounds. -/
import Derived.Test.YtaihigaafjmpiaaDoorCav
namespace Go.Proofs.YtaihigaafjmpiaaDoor
open Go.RowKit Go.Maps
set_option linter.unusedVariables false

/-- The words i letters behind v, with their numbers. -/
def itP (ban : List ByteArray) (m : Nat) (v : ByteArray) : Nat → List (ByteArray × Nat)
  | 0 => [(tl3 v, 1)]
  | i + 1 => stp ban m (itP ban m v i)
def abcd (v : ByteArray) : Prop := ∀ c ∈ L v, 97 ≤ c.toNat ∧ c.toNat ≤ 100
theorem tl3_wk {v : ByteArray} (h : abcd v) : wk3 (tl3 v) := by
  refine ⟨by unfold tl3; rw [ByteArray.size_extract]; omega, fun c hc => ?_⟩
  rw [tl3, L_extract] at hc
  exact h c (List.mem_of_mem_take (List.mem_of_mem_drop hc))
theorem itP_ok {ban : List ByteArray} {m : Nat} {v : ByteArray} (hm : m ≤ 4) (hv : abcd v) : ∀ (i : Nat), (∀ x ∈ nms (itP ban m v i), wk3 x) ∧ (itP ban m v i).length ≤ 125 ∧ sm (itP ban m v i) ≤ 4 ^ i
  | 0 => ⟨fun x hx => by
      have : x = tl3 v := by simpa [itP, nms] using hx
      rw [this]; exact tl3_wk hv, by simp [itP], by simp [itP, sm, cns]⟩
  | i + 1 => by
    obtain ⟨h1, h2, h3⟩ := itP_ok (ban := ban) hm hv i
    have hw : WK (stp ban m (itP ban m v i)) := WK.stE hm h1 WK.nil
    refine ⟨hw.2, hw.len, ?_⟩
    have h4 := sm_stE ban m (itP ban m v i) []
    have h5 : m * sm (itP ban m v i) ≤ 4 * 4 ^ i := Nat.mul_le_mul hm h3
    have h6 : sm [] = 0 := rfl
    rw [itP, stp, Nat.pow_succ]; omega
theorem itP_val (ban : List ByteArray) (m : Nat) (v : ByteArray) : ∀ (i k : Nat), val (cnt ban m k) (itP ban m v i) = cnt ban m (k + i) (tl3 v)
  | 0, k => by simp [itP, val]
  | i + 1, k => by
    rw [itP, val_stp, itP_val ban m v i (k + 1)]
    congr 1; omega
theorem itP_sum (ban : List ByteArray) (m : Nat) (v : ByteArray) (n : Nat) : (cns (itP ban m v n)).sum = cnt ban m n (tl3 v) := by
  have h := itP_val ban m v n 0
  rw [Nat.zero_add] at h
  rw [← h, val, cns]
  congr 1
  exact List.map_congr_left fun x _ => by simp [cnt]
theorem sum_take {l : List Nat} {i x : Nat} (h : l[i]? = some x) : (l.take (i + 1)).sum = (l.take i).sum + x := by
  rw [List.take_add_one, h]; simp
theorem sum_take_le (l : List Nat) (i : Nat) : (l.take i).sum ≤ l.sum := by
  have : l.sum = (l.take i).sum + (l.drop i).sum := by rw [← List.sum_append, List.take_append_drop]
  omega
attribute [irreducible] itP
def caOk (m n : Int) (ban : List ByteArray) : Bool := decide (1 ≤ m ∧ m ≤ 4) && decide (0 ≤ n ∧ n ≤ 18) && banOk ban
def caV (m n : Int) (ban : List ByteArray) : Int := if caOk m n ban then (cnt ban m.toNat n.toNat ByteArray.empty : Int) else -1
theorem caV_yes {m n : Int} {ban : List ByteArray} (h : caOk m n ban = true) : caV m n ban = (cnt ban m.toNat n.toNat ByteArray.empty : Int) := by rw [caV, if_pos h]
theorem caV_no {m n : Int} {ban : List ByteArray} (h : ¬ caOk m n ban = true) : caV m n ban = -1 := by rw [caV, if_neg h]
theorem caOk_split {m n : Int} {ban : List ByteArray} (h : caOk m n ban = true) : (1 ≤ m ∧ m ≤ 4) ∧ (0 ≤ n ∧ n ≤ 18) ∧ banOk ban = true := by
  simp only [caOk, Bool.and_eq_true, decide_eq_true_eq] at h
  exact ⟨h.1.1, h.1.2, h.2⟩
theorem tl3_empty : tl3 ByteArray.empty = ByteArray.empty := by decide
theorem abcd_empty : abcd ByteArray.empty := fun c hc => by simp [L] at hc
theorem nw_world {w w1 : World} {m : Int} {A : Option Addr} {bn c : Nat} {T : TypeId} (d : Dr ((w.alloc (.map #[] 0)).alloc (.cells #[.int .i64 m, .slice A bn c, .map (some w.heap.size)] T)) w1) :
    Below w.heap.size w w1 ∧ (∀ k : Nat, m = (k : Int) → WF w (w.heap.size + 1) w.heap.size k A bn c w1) ∧ w1.ownsMap Tryd.prog 9 (plainElem (H := Unit) Tryd.prog 3) w.heap.size 0 (.map []) := by
  have hb : Below w.heap.size w w1 := (((Below.refl _ _).alloc (Nat.le_refl _) _).alloc (by simp) _).trans d.below
  have hs := (d.below (B := 0)).size
  have hz : ((w.alloc (.map #[] 0)).alloc (.cells #[.int .i64 m, .slice A bn c, .map (some w.heap.size)] T)).heap.size = w.heap.size + 2 := by simp
  have hc := fun q (hq : q < 3) => d.below.cell (B := w.heap.size + 2) (p := ⟨w.heap.size + 1, q, none⟩) (by simp)
  refine ⟨hb, fun k hk => ⟨hb, by omega, ?_, ?_, ?_⟩, ((World.ownsMap_made w Tryd.prog _ _).alloc _).kept (gr_below d.below none) (by simp)⟩
  · rw [hc 0 (by omega), ← hk]; simp
  · rw [hc 1 (by omega)]; simp
  · rw [hc 2 (by omega)]; simp
set_option maxHeartbeats 1000000 in
theorem newWalk_any (m n : Int) (ban : List ByteArray) (A : Option Addr) (c : Nat) (w : World) (hl : ban.length ≤ 4294967296) (hsz : ∀ s ∈ ban, s.size ≤ maxLen) (hrd : Rds w w.heap.size A (ban.map Value.string)) :
    Calls Tryd.prog 26 #[.int .i64 m, .int .i64 n, .slice A ban.length c] w fun e w' => e = .returned (.tuple #[.pointer (some ⟨w.heap.size + 1, 0, none⟩), .bool (caOk m n ban)]) ∧ Below w.heap.size w w' ∧
      (∀ k : Nat, m = (k : Int) → WF w (w.heap.size + 1) w.heap.size k A ban.length c w') ∧ w'.ownsMap Tryd.prog 9 (plainElem (H := Unit) Tryd.prog 3) w.heap.size 0 (.map []) := by
  have hbo := fun w' r => iBanOk_any ban A c w.heap.size w' hl hsz r
  have hmm := @run_makeMap Tryd.prog
  obtain ⟨bn, hbn⟩ : ∃ x, ban.length = x := ⟨_, rfl⟩
  rw [hbn] at hbo ⊢
  have HRD := Lib.hid hrd
  clear hrd hsz hl hbn
  by_cases h1 : 1 ≤ m ∧ m ≤ 4
  · by_cases h2 : 0 ≤ n ∧ n ≤ 18
    · obtain ⟨R, hR⟩ : ∃ R, banOk ban = R := ⟨_, rfl⟩
      rw [hR] at hbo
      have hok : caOk m n ban = R := by rw [caOk, hR, decide_eq_true h1, decide_eq_true h2]; rfl
      rw [hok]
      have HBO := Lib.hid hbo
      clear hbo hR hok
      go_enter Tryd.func26, Tryd.ntmps26
      go_wp2_with (first
        | (go_at_call 34; refine (within_yes _ _ _ ⟨by omega, by omega⟩ _).mono ?_; rintro e w' ⟨rfl, rfl⟩)
        | (go_at_call 11; refine (HBO.out _ (HRD.out.below (((Below.refl _ _).alloc (Nat.le_refl _) _).alloc (by simp) _) (Nat.le_refl _))).mono ?_; rintro e w1 ⟨rfl, d1⟩))
      go_ret2
      exact ⟨rfl, nw_world d1⟩
    · rw [show caOk m n ban = false from by rw [caOk, decide_eq_false h2]; simp]
      have H2 := Lib.hid h2
      clear h2 hbo
      go_enter Tryd.func26, Tryd.ntmps26
      go_wp2_with (first
        | (go_at_call_of 34 m; refine (within_yes _ _ _ ⟨by omega, by omega⟩ _).mono ?_; rintro e w' ⟨rfl, rfl⟩)
        | (go_at_call 34; refine (within_no _ _ _ H2.out _).mono ?_; rintro e w' ⟨rfl, rfl⟩))
      go_ret2
      exact ⟨rfl, nw_world (Dr.refl _)⟩
  · rw [show caOk m n ban = false from by rw [caOk, decide_eq_false h1]; simp]
    have H1 := Lib.hid h1
    clear h1 hbo
    go_enter Tryd.func26, Tryd.ntmps26
    go_wp2_with (go_at_call 34; refine (within_no _ _ _ H1.out _).mono ?_; rintro e w' ⟨rfl, rfl⟩)
    go_ret2
    exact ⟨rfl, nw_world (Dr.refl _)⟩
theorem wk3_empty : wk3 ByteArray.empty := ⟨by decide, abcd_empty⟩
set_option maxHeartbeats 1000000 in
theorem iCa_any (m n : Int) (ban : List ByteArray) (A : Option Addr) (c : Nat) (w : World) (hl : ban.length ≤ 4294967296) (hsz : ∀ s ∈ ban, s.size ≤ maxLen) (hrd : Rds w w.heap.size A (ban.map Value.string)) (hml : MlOk w) (htb : TB w) :
    Calls Tryd.prog 12 #[.int .i64 m, .int .i64 n, .slice A ban.length c] w fun e w' => e = .returned (.int .i64 (caV m n ban)) ∧ Below w.heap.size w w' := by
  have hnw := newWalk_any m n ban A c w hl hsz hrd
  cases hok : caOk m n ban
  · rw [hok] at hnw
    rw [caV_no (by rw [hok]; simp)]
    have HNW := Lib.hid hnw
    clear hnw hok hrd hml htb hsz
    go_enter Tryd.func12, Tryd.ntmps12
    go_wp2_with fail
    refine HNW.out.mono ?_
    rintro e w1 ⟨rfl, b1, _, _⟩
    go_wp2_with fail
    go_ret
    exact ⟨rfl, b1⟩
  · rw [hok] at hnw
    rw [caV_yes hok]
    obtain ⟨h1, h2, h3⟩ := caOk_split hok
    obtain ⟨k, rfl⟩ : ∃ k : Nat, m = (k : Int) := ⟨m.toNat, by omega⟩
    obtain ⟨j, rfl⟩ : ∃ k : Nat, n = (k : Int) := ⟨n.toNat, by omega⟩
    simp only [Int.toNat_natCast]
    have hst18 := sto_le j
    have h18 := pow18 (n := j) (by omega)
    have hcn := fun w' k' D hk => count_any w ban k (w.heap.size + 1) w.heap.size A c ban.length rfl (banOk_len h3) (ban_size4 h3) (by omega) (Nat.le_refl _) (by omega) hrd hml htb j (by omega) ByteArray.empty wk3_empty w' k' D hk
    have HNW := Lib.hid hnw; have HCN := Lib.hid hcn
    clear hnw hcn hok hrd hml htb hsz h3
    go_enter Tryd.func12, Tryd.ntmps12
    go_wp2_with fail
    refine HNW.out.mono ?_
    rintro e w1 ⟨rfl, b1, wf1, own1⟩
    have hc1 := HCN.out w1 0 _ (by omega) (wf1 k rfl) own1 (snd_none _ _)
    have HC1 := Lib.hid hc1
    clear hc1 wf1 own1
    go_wp2_with (go_at_call 27; refine HC1.out.mono ?_; rintro e5 w5 ⟨rfl, k5, D5, hk5, own5, snd5, gr5⟩)
    go_ret
    exact ⟨rfl, b1.grown gr5 b1.size (fun q hq => by injection hq with hq; omega)⟩
end Go.Proofs.YtaihigaafjmpiaaDoor
