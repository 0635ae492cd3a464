/- Texts of this claim, one behind the other: Cpl, Fsb, Rdb. No condition but what each says. -/
import Derived.Test.YtbegecoocgkbiaaGreatDoorSrt
import Derived.Test.YtbegecoocgkbiaaGreatDoorBok
import Derived.Test.YtbegecoocgkbiaaGreatDoorJon
import Derived.Test.YtbegecoocgkbiaaGreatDoorM7
import Derived.Test.YtbegecoocgkbiaaGreatDoorM16
/- ComplexityOf and FactorsOf, the program's. Asks the shelf's text. No condition but the bounds. -/
namespace Go.Proofs.YtbegecoocgkbiaaGreatDoor
open Go.RowKit
set_option linter.unusedVariables false

def cpx (s : ByteArray) (n : Nat) : Nat := (insL (fc s n)).length
theorem cpx_le (s : ByteArray) (n : Nat) (hn : 1 ≤ n) : cpx s n ≤ s.size + 1 := by
  have h1 := insL_len (fc s n)
  unfold cpx
  rw [fc] at h1 ⊢; rw [fcT_len] at h1; omega
theorem isLenC_yes (s : ByteArray) (n : Nat) (h0 : isW (L s) = true) (h1 : 1 ≤ n) (h2 : n ≤ 400) (w : World) :
    Calls Tryz.prog 65 #[.string s, .int .i64 n] w fun e w' => e = .returned (.bool true) ∧ w = w' := by
  have h4 := isW_size h0
  have hs9 : s.size ≤ maxLen := by unfold maxLen; omega
  have H0 := Lib.hid h0
  have H2 := Lib.hid (fun w => within_yes (n : Int) 1 400 ⟨by omega, by omega⟩ w)
  clear h0
  go_enter Tryz.func65, Tryz.ntmps65
  go_wp2_with (first
    | (go_at_call 70; with_reducible refine (isWord_is s _ hs9 H0.out _).mono ?_; rintro e w' ⟨rfl, rfl⟩)
    | (go_at_call 61; with_reducible refine (H2.out _).mono ?_; rintro e w' ⟨rfl, rfl⟩))
  go_ret
  exact ⟨rfl, rfl⟩
theorem iCpx_yes (s : ByteArray) (n : Nat) (h0 : isW (L s) = true) (h1 : 1 ≤ n) (h2 : n ≤ 400) (w : World) :
    Calls Tryz.prog 8 #[.string s, .int .i64 n] w fun e w' => e = .returned (.int .i64 (cpx s n)) ∧ Below w.heap.size w w' := by
  have h4 := isW_size h0
  have HL := Lib.hid (fun w => isLenC_yes s n h0 h1 h2 w)
  have HF := Lib.hid (fun w => factorsOf_any s n h4 (by omega) w)
  clear h0
  go_enter Tryz.func8, Tryz.ntmps8
  go_wp2_with fail
  refine (HL.out _).mono ?_
  rintro e w1 ⟨rfl, rfl⟩
  go_wp2_with fail
  refine (HF.out _).mono ?_
  rintro e w2 ⟨g, c, rfl, st, b2⟩
  go_wp2_with fail
  go_ret
  exact ⟨rfl, b2⟩
end Go.Proofs.YtbegecoocgkbiaaGreatDoor

/- The text of a substitution: FormatSubst, both. Asks the shelf's text (strings.Join). No condition but the bounds. -/
namespace Go.Proofs.YtbegecoocgkbiaaGreatDoor
open Go.RowKit
set_option linter.unusedVariables false

theorem jnS_length (c : UInt8) : ∀ (l : List ByteArray) (m : Nat), (∀ x ∈ l, x.size ≤ m) → (jnS c l).length ≤ l.length * (m + 1)
  | [], m, _ => by simp [jnS, Lib.join_nil]
  | x :: l, m, h => by
    have hx := h x List.mem_cons_self
    have h1 : ∀ r : List ByteArray, (∀ y ∈ r, y.size ≤ m) → (Lib.joinTail [c] (r.map L)).length ≤ r.length * (m + 1) := by
      intro r
      induction r with
      | nil => intro _; simp [Lib.joinTail]
      | cons y r ih =>
        intro hr
        have h2 := ih fun z hz => hr z (List.mem_cons_of_mem _ hz)
        have h3 := hr y List.mem_cons_self
        rw [List.map_cons, Lib.joinTail, List.map_cons, List.flatten_cons, ← Lib.joinTail, List.length_append, List.length_append, L_len, List.length_cons, List.length_cons, Nat.succ_mul]
        simp only [List.length_nil]
        omega
    have h2 := h1 l fun y hy => h y (List.mem_cons_of_mem _ hy)
    rw [jnS, List.map_cons, Lib.join_cons, List.length_append, L_len, List.length_cons, Nat.succ_mul]
    omega
theorem su_img {zs : List ByteArray} (h : suOk zs = true) : zs.length ≤ 4 ∧ ∀ x ∈ zs, x.size ≤ 8 := by
  rw [suOk, Bool.and_eq_true, List.all_eq_true, decide_eq_true_eq] at h
  refine ⟨h.2.2, fun x hx => ?_⟩
  have := h.1 x hx
  rw [imgOk, Bool.and_eq_true, decide_eq_true_eq] at this
  exact this.1.2
/-- The text of a substitution. -/
def fsV (zs : List ByteArray) : ByteArray := if suOk zs then strOf (jnS 44 zs) else { data := #[] }
set_option maxHeartbeats 1000000 in
theorem sFormatSubst_any (zs : List ByteArray) (A : Option Addr) (n c B : Nat) (w : World) (hl : zs.length = n) (hB : B ≤ w.heap.size) (hn : n ≤ 4294967296) (hsz : ∀ s ∈ zs, s.size ≤ maxLen) (hrd : Rds w B A (zs.map Value.string)) :
    Calls Tryz.prog 198 #[.agg #[.slice A n c]] w fun e w' => e = .returned (.string (fsV zs)) ∧ Below w.heap.size w w' := by
  subst hl
  have bA : Below w.heap.size w (w.alloc (.cells #[.slice A zs.length c] 25)) := (Below.refl _ _).alloc (Nat.le_refl _) _
  have hso := sSubstOk_any zs A c B _ (Nat.le_trans hB bA.size) hn hsz (hrd.below bA hB)
  have h0 := heap_alloc_new w (.cells #[.slice A zs.length c] 25)
  have hz : w.heap.size < (w.alloc (.cells #[.slice A zs.length c] 25)).heap.size := by simp
  have H0 := Lib.hid h0; have BA := Lib.hid bA; have HZ := Lib.hid hz
  clear h0 bA hz
  cases hok : suOk zs
  · rw [hok] at hso
    have HV : Hid (fsV zs = { data := #[] }) := Lib.hid (by rw [fsV, hok]; rfl)
    have HSO := Lib.hid hso
    clear hso hok hrd hsz
    go_enter Tryz.func198, Tryz.ntmps198
    go_wp2_with (go_at_call 197; refine HSO.out.mono ?_; rintro e w2 ⟨rfl, b2⟩)
    go_ret
    exact ⟨by rw [HV.out]; rfl, BA.out.trans (b2.mono (by have := HZ.out; omega))⟩
  · rw [hok] at hso
    have HV : Hid (fsV zs = strOf (jnS 44 zs)) := Lib.hid (by rw [fsV, if_pos hok])
    obtain ⟨h4, h8⟩ := su_img hok
    have hj := fun w' r => sJoinS_any 44 zs A c B w' (by omega) (fun x hx => by have := h8 x hx; omega) r
    have HSO := Lib.hid hso; have HJ := Lib.hid hj; have HRD := Lib.hid hrd
    clear hso hok hrd hsz hj
    go_enter Tryz.func198, Tryz.ntmps198
    go_wp2_with (first
      | (go_at_call 197; refine HSO.out.mono ?_; rintro e w2 ⟨rfl, b2⟩; have k2 := (b2.cell (p := ⟨w.heap.size, 0, none⟩) HZ.out).trans (cell_of_row _ _ 0 _ _ (0, 0) H0.out))
      | (go_at_call 222; refine (HJ.out _ (HRD.out.below (BA.out.trans (b2.mono (by have := HZ.out; omega))) hB)).mono ?_; rintro e w3 ⟨rfl, rfl⟩))
    go_ret
    exact ⟨by rw [HV.out]; rfl, BA.out.trans (b2.mono (by have := HZ.out; omega))⟩
theorem iJoinR_any (sp : UInt8) (l : List ByteArray) (g n c B : Nat) (w : World) (hn : l.length = n) (h1 : 1 ≤ n) (hl : l.length ≤ 1000) (hz : ∀ x ∈ l, x.size ≤ 400) (hc : n ≤ c) (hrd : Rds w B (some ⟨g, 0, none⟩) (l.map Value.string)) (hB : B ≤ w.heap.size) :
    Calls Tryz.prog 95 #[.slice (some ⟨g, 0, none⟩) n c, .string { data := #[sp] }] w fun e w' => e = .returned (.string (strOf (jnS sp l))) ∧ Below w.heap.size w w' := by
  subst hn
  have hjl := js_len sp l hz
  have hcell : ∀ (j : Nat) (x : ByteArray), l[j]? = some x → w.cell? ⟨g, 0 + j, none⟩ = some (.string x) := fun j x hx => by
    obtain ⟨ad, e, hb, hc⟩ := hrd j _ (map_at Value.string hx)
    injection e with e
    subst e
    rw [show (⟨g, 0, none⟩ : Addr).add j = ⟨g, 0 + j, none⟩ from by unfold Addr.add; split <;> simp_all] at hc
    exact hc
  have hgs : g < w.heap.size := by
    obtain ⟨x, hx⟩ := some_of_lt (l := l) (k := 0) (by omega)
    obtain ⟨ad, e, hb, _⟩ := hrd 0 _ (map_at Value.string hx)
    injection e with e
    subst e
    exact Nat.lt_of_lt_of_le hb hB
  refine Tryz.strings_Join g 0 c l { data := #[sp] } w hcell hgs (by omega) hc (by
    show (jnS sp l).length ≤ _
    omega)
set_option maxHeartbeats 1000000 in
theorem iFormatSubst_yes (zs : List ByteArray) (g n c B : Nat) (w : World) (hl : zs.length = n) (hc : n ≤ c) (hB : B ≤ w.heap.size) (hsu : suOk zs = true) (hrd : Rds w B (some ⟨g, 0, none⟩) (zs.map Value.string)) :
    Calls Tryz.prog 47 #[.agg #[.slice (some ⟨g, 0, none⟩) n c]] w fun e w' => e = .returned (.string (fsV zs)) ∧ Below w.heap.size w w' := by
  subst hl
  obtain ⟨h4, h8⟩ := su_img hsu
  have h1 : 1 ≤ zs.length := by
    rw [suOk, Bool.and_eq_true, decide_eq_true_eq] at hsu; exact hsu.2.1
  have bA : Below w.heap.size w (w.alloc (.cells #[.slice (some ⟨g, 0, none⟩) zs.length c] 25)) := (Below.refl _ _).alloc (Nat.le_refl _) _
  have hso := iSubstOk_any zs (some ⟨g, 0, none⟩) c B _ (Nat.le_trans hB bA.size) (by omega) (fun x hx => by have := h8 x hx; unfold maxLen; omega) (hrd.below bA hB)
  rw [hsu] at hso
  have h0 := heap_alloc_new w (.cells #[.slice (some ⟨g, 0, none⟩) zs.length c] 25)
  have hz : w.heap.size < (w.alloc (.cells #[.slice (some ⟨g, 0, none⟩) zs.length c] 25)).heap.size := by simp
  have hv : fsV zs = strOf (jnS 44 zs) := by rw [fsV, if_pos hsu]
  have hj := fun v r hb => iJoinR_any 44 zs g zs.length c B v rfl h1 (by omega) (fun x hx => by have := h8 x hx; omega) hc r hb
  have H0 := Lib.hid h0; have BA := Lib.hid bA; have HZ := Lib.hid hz; have HSO := Lib.hid hso; have HJ := Lib.hid hj; have HRD := Lib.hid hrd; have HV := Lib.hid hv
  clear h0 bA hz hso hrd hj hsu h8 hv
  go_enter Tryz.func47, Tryz.ntmps47
  go_wp2_with fail
  refine HSO.out.mono ?_
  rintro e w2 ⟨rfl, b2⟩
  have k2 := (b2.cell (p := ⟨w.heap.size, 0, none⟩) HZ.out).trans (cell_of_row _ _ 0 _ _ (0, 0) H0.out)
  have bw2 : Below w.heap.size w w2 := BA.out.trans (b2.mono (by have := HZ.out; omega))
  go_wp2_with fail
  refine (HJ.out w2 (HRD.out.below bw2 hB) (Nat.le_trans hB bw2.size)).mono ?_
  rintro e w3 ⟨rfl, b3⟩
  go_wp2_with fail
  go_ret
  exact ⟨by rw [HV.out]; rfl, bw2.trans (b3.mono bw2.size)⟩
end Go.Proofs.YtbegecoocgkbiaaGreatDoor

/- ReducedBan, both. Asks the shelf's text. No condition but the bounds. -/
namespace Go.Proofs.YtbegecoocgkbiaaGreatDoor
open Go.RowKit Go.Sort
set_option linter.unusedVariables false

def rbP (f g : ByteArray) : Bool := decide (g = f) || !hasF f g
def rbK (ss : List ByteArray) (f : ByteArray) : Bool := ss.all (rbP f)
/-- The words of a ban that no other word of it lies in, in order, each once. -/
def rbL (ss : List ByteArray) : List ByteArray := insL (ss.filter (rbK ss))
def rbV (ss : List ByteArray) : List ByteArray := if banOk ss then rbL ss else []
theorem rdbOk_len {ss : List ByteArray} (h : banOk ss = true) : ss.length ≤ 8 := by
  unfold banOk at h; simp at h; exact h.2
theorem rdbOk_size {ss : List ByteArray} (h : banOk ss = true) : ∀ s ∈ ss, s.size ≤ 4 := by
  intro s hs
  unfold banOk at h
  simp only [Bool.and_eq_true, List.all_eq_true] at h
  have := h.1 s hs
  unfold banW at this
  simp at this
  omega
theorem fil_yes {xs : List ByteArray} {k : Nat} {x : ByteArray} {p : ByteArray → Bool} (hx : xs[k]? = some x) (hp : p x = true) : (xs.take (k + 1)).filter p = (xs.take k).filter p ++ [x] := by
  rw [List.take_add_one, hx, List.filter_append]; simp [hp]
theorem fil_no {xs : List ByteArray} {k : Nat} {x : ByteArray} {p : ByteArray → Bool} (hx : xs[k]? = some x) (hp : p x = false) : (xs.take (k + 1)).filter p = (xs.take k).filter p := by
  rw [List.take_add_one, hx, List.filter_append]; simp [hp]
theorem fil_len (xs : List ByteArray) (p : ByteArray → Bool) (k : Nat) : ((xs.take k).filter p).length ≤ k := by
  have h1 := List.length_filter_le p (xs.take k)
  rw [List.length_take] at h1; omega
theorem rb_len {ss : List ByteArray} (h : banOk ss = true) (k : Nat) : (insL ((ss.take k).filter (rbK ss))).length ≤ 8 := by
  have h1 := insL_len ((ss.take k).filter (rbK ss))
  have h2 := List.length_filter_le (rbK ss) (ss.take k)
  have h3 := rdbOk_len h
  rw [List.length_take] at h2; omega
theorem Own.prefix_ {w : World} {B g n m c : Nat} {T : TypeId} {xs : List Value} (h : Own w B T (.slice (some ⟨g, 0, none⟩) n c) xs) (hx : xs.length = n) (hm : m ≤ n) : Own w B T (.slice (some ⟨g, 0, none⟩) m c) (xs.take m) := by
  subst hx
  have hml : (xs.take m).length = m := by rw [List.length_take]; omega
  refine ⟨by rw [hml, Nat.mul_one], ?_⟩
  rcases h.2 with ⟨h0, _⟩ | ⟨g', cap, cur, hv, hB, hg, hn, hmx, hcs, ht⟩
  · cases h0
  · injection hv with e1 e2 e3
    injection e1 with e1
    injection e1 with e1
    subst e1 e3
    refine .inr ⟨g, c, cur, by rw [hml], hB, hg, by rw [hml]; omega, hmx, hcs, ?_⟩
    rw [hml, Nat.mul_one]
    have ht' := congrArg (List.take m) ht
    rw [List.take_take, Nat.mul_one, Nat.min_eq_left hm] at ht'
    exact ht'
/-- A sorted slice of the call's own, each element once: the call's own too. -/
theorem compact_own2 (l : List ByteArray) (g c B : Nat) (w : World) (hl : l.length ≤ 1000000) (h : Own w B 9 (.slice (some ⟨g, 0, none⟩) l.length c) ((srt l).map encStr)) :
    Calls Tryz.prog 115 #[.slice (some ⟨g, 0, none⟩) l.length c] w fun e w' => e = .returned (.slice (some ⟨g, 0, none⟩) (insL l).length c) ∧ Own w' B 9 (.slice (some ⟨g, 0, none⟩) (insL l).length c) ((insL l).map Value.string) ∧ Below B w w' := by
  have h1 : Own w B 9 (.slice (some ⟨g, 0, none⟩) (srt l).length c) ((srt l).map encStr) := by rw [srt_len]; exact h
  obtain ⟨A', c', hv, hc1, hc2, _⟩ := h1.shape
  injection hv with e1 e2 e3
  subst e3
  rw [List.length_map] at hc1
  have hc := Tryz.slices_Compact_string g 0 c (srt l) w (own_holds h1) (by rw [srt_len]; omega) hc1
  rw [srt_len] at hc
  refine hc.mono ?_
  rintro e w' ⟨rfl, q, rfl⟩
  have hcl := Lib.compact_length_le (srt l)
  rw [srt_len] at hcl
  have hr := h.row (by rw [List.length_map, srt_len]) (Lib.compact (srt l) ++ List.replicate (l.length - (Lib.compact (srt l)).length) []).toArray (by simp; omega) q #[]
  rw [grow_empty] at hr
  have hol : (Lib.compact (srt l)).length = (insL l).length := by rw [← ord_ins, ordL, List.length_map]
  refine ⟨by rw [hol], ?_, hr.2⟩
  have hp := hr.1.prefix_ (m := (insL l).length) (by simp; omega) (by omega)
  have hle : List.take (insL l).length (List.map encStr (Lib.compact (srt l) ++ List.replicate (l.length - (Lib.compact (srt l)).length) []).toArray.toList) = (insL l).map Value.string := by
    rw [List.toList_toArray, List.map_append, ← hol, List.take_append_of_le_length (by rw [List.length_map]; omega), List.take_of_length_le (by rw [List.length_map]; omega), ← ord_ins, ordL, List.map_map]
    rfl
  rw [hle] at hp
  exact hp
set_option maxRecDepth 4000 in
theorem ordered_own (l : List ByteArray) (g c B : Nat) (w : World) (hl : l.length ≤ 1000000) (h : Own w B 9 (.slice (some ⟨g, 0, none⟩) l.length c) (l.map Value.string)) :
    Calls Tryz.prog 142 #[.slice (some ⟨g, 0, none⟩) l.length c] w fun e w' => e = .returned (.slice (some ⟨g, 0, none⟩) (insL l).length c) ∧ Own w' B 9 (.slice (some ⟨g, 0, none⟩) (insL l).length c) ((insL l).map Value.string) ∧ Below B w w' := by
  go_enter Tryz.func142, Tryz.ntmps142
  go_wp2_with fail
  refine (sort_own l g c B _ hl h).mono ?_
  rintro e w2 ⟨rfl, ho2, b2⟩
  go_wp2_with fail
  refine (compact_own2 l g c B _ hl ho2).mono ?_
  rintro e w3 ⟨rfl, ho3, b3⟩
  go_wp2_with fail
  go_ret
  exact ⟨rfl, ho3, b2.trans b3⟩
theorem rbV_len (ss : List ByteArray) : (rbV ss).length ≤ 8 := by
  unfold rbV
  split
  · rename_i h
    have := rb_len h ss.length
    rw [List.take_length] at this
    exact this
  · simp
/-- A slice of the call's own is written to: what lay before it reads as before. -/
theorem Own.rds_kept {w w0 w1 : World} {B B' : Nat} {E : TypeId} {v : Value} {xs ys : List Value} {A : Option Addr} (h : Own w B E v xs) (hg : w0.grownBy w1 v.ownBlock) (hr : Rds w0 B' A ys) (hB : B' ≤ B) (hs : B' ≤ w0.heap.size) : Rds w1 B' A ys :=
  hr.keep fun p hp => hg.cell_far p (by omega) (fun he => by
    have h1 := (World.ownsRow.lt h p.block he.symm).1
    omega)
end Go.Proofs.YtbegecoocgkbiaaGreatDoor
