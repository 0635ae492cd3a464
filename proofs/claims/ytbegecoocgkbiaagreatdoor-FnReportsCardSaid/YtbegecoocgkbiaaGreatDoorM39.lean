/- Texts of this claim, one behind the other: Rps, Ptl, Rtd, Rpw, Rtl. No condition but what each says. -/
import Derived.Test.YtbegecoocgkbiaaGreatDoorFnm
import Derived.Test.YtbegecoocgkbiaaGreatDoorPnm
import Derived.Test.YtbegecoocgkbiaaGreatDoorM7
import Derived.Test.YtbegecoocgkbiaaGreatDoorNml
import Derived.Test.YtbegecoocgkbiaaGreatDoorCpx
import Derived.Test.YtbegecoocgkbiaaGreatDoorLyw
import Derived.Test.YtbegecoocgkbiaaGreatDoorRtw
import Derived.Test.YtbegecoocgkbiaaGreatDoorM1
import Derived.Test.YtbegecoocgkbiaaGreatDoorAgr
import Derived.Test.YtbegecoocgkbiaaGreatDoorJon
import Derived.Test.YtbegecoocgkbiaaGreatDoorShelf
/- What FnReports asks, plain: numbers written and read again; a hyphen for no part; numerals. No condition. -/
namespace Go.Proofs.YtbegecoocgkbiaaGreatDoor
open Go.RowKit
set_option linter.unusedVariables false

theorem splA_no (c : UInt8) : ∀ (l cur : List UInt8), c ∉ l → splA c cur l = [cur ++ l]
  | [], cur, _ => by simp [splA]
  | x :: l, cur, h => by
    rw [List.mem_cons, not_or] at h
    rw [splA, if_neg (fun e => h.1 e.symm), splA_no c l _ h.2]; simp
theorem splA_part (c : UInt8) : ∀ (l cur r : List UInt8), c ∉ l → splA c cur (l ++ c :: r) = (cur ++ l) :: splA c [] r
  | [], cur, r, _ => by simp [splA]
  | x :: l, cur, r, h => by
    rw [List.mem_cons, not_or] at h
    rw [List.cons_append, splA, if_neg (fun e => h.1 e.symm), splA_part c l _ r h.2]; simp
theorem jnS_cons (sp : UInt8) (y : ByteArray) {m : List ByteArray} (hm : m ≠ []) : jnS sp (y :: m) = L y ++ sp :: jnS sp m := by
  cases m with
  | nil => exact absurd rfl hm
  | cons a b => simp [jnS, Lib.join, List.intercalate]
/-- Split at the byte that joins. -/
theorem spl_jn (c : UInt8) : ∀ (l : List ByteArray), l ≠ [] → (∀ x ∈ l, c ∉ L x) → splA c [] (jnS c l) = l.map L
  | [], h, _ => absurd rfl h
  | [x], _, h => by
    have h1 : jnS c [x] = L x := by simp [jnS, Lib.join, List.intercalate]
    rw [h1, splA_no c _ _ (h x List.mem_cons_self)]; rfl
  | x :: y :: l, _, h => by
    rw [jnS_cons c x (by simp), splA_part c _ _ _ (h x List.mem_cons_self), spl_jn c (y :: l) (by simp) fun z hz => h z (List.mem_cons_of_mem _ hz)]
    rfl
theorem itoa_chars {z : Int} (hz : I64 z) : ∀ c ∈ Lib.itoa z, c = 45 ∨ (48 ≤ c.toNat ∧ c.toNat ≤ 57) := by
  intro c hc
  unfold I64 at hz
  by_cases h : 0 ≤ z
  · obtain ⟨u, rfl⟩ : ∃ u : Nat, z = (u : Int) := ⟨z.toNat, by omega⟩
    rw [Lib.itoa_nonneg] at hc
    exact .inr (dd_dig u c hc)
  · obtain ⟨u, rfl⟩ : ∃ u : Nat, z = -(u : Int) := ⟨(-z).toNat, by omega⟩
    rw [Lib.itoa_neg u (by omega), List.mem_cons] at hc
    rcases hc with hc | hc
    · exact .inl hc
    · exact .inr (dd_dig u c hc)
theorem itoa_no44 {z : Int} (hz : I64 z) : (44 : UInt8) ∉ Lib.itoa z := fun h => by
  rcases itoa_chars hz 44 h with h | h
  · exact absurd h (by decide)
  · exact absurd h.1 (by decide)
theorem iP_fmt {z : Int} (hz : I64 z) : iP (fmtI z) = some z := (iP_iff _ _).2 ⟨hz, by rw [fmtI, strOf_L]⟩
theorem pg_fmt : ∀ (zs acc : List Int), (∀ z ∈ zs, I64 z) → pg (fmL zs) acc = some (acc ++ zs)
  | [], acc, _ => by simp [fmL, pg]
  | z :: zs, acc, h => by
    have h1 := pg_fmt zs (acc ++ [z]) fun x hx => h x (List.mem_cons_of_mem _ hx)
    show pg (fmtI z :: fmL zs) acc = _
    rw [pg_yes (iP_fmt (h z List.mem_cons_self)), h1]; simp
/-- Numbers are read as they are written. -/
theorem pn_fnm (zs : List Int) (h : ∀ z ∈ zs, I64 z) (hl : zs.length ≤ 60) : pnV (fnmV zs) = (zs, true) := by
  unfold fnmV
  rw [if_neg (by omega)]
  by_cases h0 : zs.length = 0
  · rw [if_pos h0, pnV_dash, List.eq_nil_of_length_eq_zero h0]
  · rw [if_neg h0]
    have hne : fmL zs ≠ [] := fun e => h0 (by rw [← fmL_len, e]; rfl)
    have hno : ∀ x ∈ fmL zs, (44 : UInt8) ∉ L x := fun x hx => by
      obtain ⟨z, hz, rfl⟩ := List.mem_map.1 hx
      rw [fmtI, strOf_L]; exact itoa_no44 (h z hz)
    have hsp : splS 44 (strOf (jnS 44 (fmL zs))) = fmL zs := by
      rw [splS, strOf_L, spl_jn 44 _ hne hno, List.map_map]
      exact List.map_id'' (fun x => strOf_of_L x) _
    have hpg : pg (splS 44 (strOf (jnS 44 (fmL zs)))) [] = some zs := by rw [hsp, pg_fmt zs [] h]; rfl
    refine pnV_ok (fun e => ?_) hpg (by omega)
    -- the text is no lone hyphen: a lone hyphen is not a number
    have h2 : splS 44 ({ data := #[45] } : ByteArray) = [{ data := #[45] }] := by decide +kernel
    rw [e, h2] at hpg
    have h3 : iP { data := #[45] } = none := by
      cases hi : iP { data := #[45] } with
      | none => rfl
      | some v =>
        obtain ⟨hv, hl2⟩ := (iP_iff _ _).1 hi
        exfalso
        have hl3 : Lib.itoa v = [45] := hl2.symm
        unfold I64 at hv
        by_cases hp : 0 ≤ v
        · obtain ⟨u, rfl⟩ : ∃ u : Nat, v = (u : Int) := ⟨v.toNat, by omega⟩
          rw [Lib.itoa_nonneg] at hl3
          have := dd_dig u 45 (by rw [hl3]; simp)
          exact absurd this.1 (by decide)
        · obtain ⟨u, rfl⟩ : ∃ u : Nat, v = -(u : Int) := ⟨(-v).toNat, by omega⟩
          rw [Lib.itoa_neg u (by omega)] at hl3
          injection hl3 with _ h5
          exact dd_ne u h5
    rw [pg_no h3] at hpg
    cases hpg
theorem fnm_nil : fnmV [] = { data := #[45] } := rfl
/-- The parts of a word that is not empty, joined, are not empty. -/
theorem prts_jn {s : ByteArray} (h : 0 < s.size) : 0 < (jnS 46 (prts s 0)).length := by
  have hl := lng_ok (gl s 0) s.size h
  rw [prts_next s h (n := lng (gl s 0) (s.size - 0)) rfl]
  refine jnS_pos ?_
  rw [ByteArray.size_extract]
  have : s.size - 0 = s.size := by omega
  rw [this]; omega
theorem prts_jn0 {s : ByteArray} (h : s.size = 0) : jnS 46 (prts s 0) = [] := by
  rw [prts_end s (by omega)]; rfl
theorem nm_ge : ∀ i n acc, acc.length ≤ (nm i n acc).length
  | 0, n, acc => by simp [nm]
  | i + 1, n, acc => by
    unfold nm
    split
    · have := nm_ge i (n - wt i) (acc ++ [49]); simp at this ⊢; omega
    · split
      · exact nm_ge i n acc
      · have := nm_ge i n (acc ++ [48]); simp at this ⊢; omega
theorem nm_pos {n : Nat} (h : 0 < n) : ∀ i, 0 < (nm (i + 1) n []).length
  | 0 => by
    unfold nm
    have h1 : wt 0 ≤ n := by have : wt 0 = 1 := by decide
                             rw [this]; exact h
    rw [if_pos h1]
    simp [nm]
  | i + 1 => by
    rw [nm]
    split
    · have := nm_ge (i + 1) (n - wt (i + 1)) ([] ++ [49]); simp at this ⊢; omega
    · simp only [List.length_nil, if_true]; exact nm_pos h i
theorem numS_pos {n : Nat} (h : 0 < n) : numS n = strOf (numL n) := by
  have h2 : ¬ (numL n).length = 0 := fun e => by
    have h3 := nm_pos h 59
    unfold numL at e
    exact absurd e (Nat.ne_of_gt h3)
  rw [numS, if_neg h2]
theorem cpL_2 (s : ByteArray) : cpL s 2 = [(cpx s 1 : Int), (cpx s 2 : Int)] := rfl
end Go.Proofs.YtbegecoocgkbiaaGreatDoor

/- PartsLine, both. Asks the shelf's text. No condition but the bounds. -/
namespace Go.Proofs.YtbegecoocgkbiaaGreatDoor
open Go.RowKit
set_option linter.unusedVariables false

noncomputable def ptlV (s : ByteArray) : ByteArray := if isW (L s) = true then orD (strOf (jnS 46 (prts s 0))) else { data := #[110, 111, 110, 101] }
theorem iPtl_any (s : ByteArray) (hs : s.size ≤ maxLen) (w : World) :
    Calls Tryz.prog 43 #[.string s] w fun e w' => e = .returned (.string (ptlV s)) ∧ Below w.heap.size w w' := by
  cases h0 : isW (L s)
  · have hv : ptlV s = { data := #[110, 111, 110, 101] } := by rw [ptlV, h0]; rfl
    rw [hv]
    have H0 := Lib.hid h0
    clear h0 hv
    go_enter Tryz.func43, Tryz.ntmps43
    go_wp2_with (go_at_call 70; with_reducible refine (isWord_is s _ hs H0.out _).mono ?_; rintro e w' ⟨rfl, rfl⟩)
    go_ret
    exact ⟨rfl, Below.refl _ _⟩
  · have hv : ptlV s = orD (strOf (jnS 46 (prts s 0))) := by rw [ptlV, h0]; rfl
    rw [hv]
    have h4 := isW_size h0
    have hpts := fun w => iPts_yes s h0 w
    have hl : (prts s 0).length ≤ 1000 := by have := prt_len s (s.size + 1) 0; unfold prts; omega
    have hz : ∀ x ∈ prts s 0, x.size ≤ 400 := fun x hx => by have := prt_size s (s.size + 1) 0 x hx; omega
    have H0 := Lib.hid h0; have HPT := Lib.hid hpts; have HZ := Lib.hid hz
    clear h0 hv hpts hz
    go_enter Tryz.func43, Tryz.ntmps43
    go_wp2_with (go_at_call 70; with_reducible refine (isWord_is s _ hs H0.out _).mono ?_; rintro e w' ⟨rfl, rfl⟩)
    refine (HPT.out _).mono ?_
    rintro e w1 ⟨A1, c1, rfl, o1, b1⟩
    have HO := Lib.hid o1
    have z1 := b1.size
    clear o1
    go_wp2_with fail
    refine (iJoinS_any 46 (prts s 0) A1 _ c1 _ _ rfl hl HZ.out HO.out).mono ?_
    rintro e w2 ⟨rfl, b2⟩ --J
    go_wp2_with fail
    refine (orDashD_any (strOf (jnS 46 (prts s 0))) _).mono ?_
    rintro e w3 ⟨rfl, rfl⟩
    go_wp2_with fail
    go_ret
    exact ⟨rfl, b1.trans (b2.mono z1)⟩
end Go.Proofs.YtbegecoocgkbiaaGreatDoor

/- Return words of the reference; the derived word, both. No condition but the bounds. -/
namespace Go.Proofs.YtbegecoocgkbiaaGreatDoor
open Go.RowKit
set_option linter.unusedVariables false

end Go.Proofs.YtbegecoocgkbiaaGreatDoor

/- What FnReports asks of two small functions, and sizes. Asks the shelf's text. No condition but the bounds. -/
namespace Go.Proofs.YtbegecoocgkbiaaGreatDoor
open Go.RowKit
set_option linter.unusedVariables false

theorem agrs_64 {s : ByteArray} (h : s.size ≤ 400) : ∀ z ∈ agrs (L s) (s.size + 1), I64 z := fun z hz => by
  rw [agrs, List.mem_map] at hz
  obtain ⟨k, hk, rfl⟩ := hz
  rw [List.mem_range] at hk
  have h1 := mism_le ((L s).drop k) ((L s).take ((L s).length - k))
  rw [List.length_drop, L_len] at h1
  unfold agr I64
  rw [L_len]
  omega
theorem fnm_size {zs : List Int} (h : ∀ z ∈ zs, I64 z) (hl : zs.length ≤ 60) : (fnmV zs).size ≤ 30000 := by
  unfold fnmV
  rw [if_neg (by omega)]
  split
  · decide
  · have h1 := js_len 44 (fmL zs) fun x hx => by
      obtain ⟨z, hz, rfl⟩ := List.mem_map.1 hx
      exact fmtI_size (h z hz)
    rw [fmL_len] at h1
    rw [strOf_size]; omega
set_option maxHeartbeats 400000 in
theorem lsame_same (xs : List Int) (A A' : Option Addr) (c c' B B' n : Nat) (w : World) (hl : xs.length = n) (hn : n ≤ 1000000) (hx : Rds w B A (xs.map (Value.int .i64))) (hy : Rds w B' A' (xs.map (Value.int .i64))) :
    Calls Tryz.prog 10 #[.slice A n c, .slice A' n c'] w fun e w' => e = .returned (.bool true) ∧ Dr w w' := by
  subst hl
  have HX := Lib.hid hx; have HY := Lib.hid hy; clear hx hy
  go_enter Tryz.func10, Tryz.ntmps10
  go_wp2_with fail
  go_loopw [5, 6, 14] (fun _ _ i wr => ∃ k : Nat, k ≤ xs.length ∧ i = .int .i64 k ∧ Dr w wr) (fun _ _ i _ => xs.length - (intOf i).toNat)
  case atStart => exact ⟨0, by omega, rfl, Dr.refl _⟩
  case round =>
    obtain ⟨k, hk, rfl, hd⟩ := hrel
    by_cases hlt : k < xs.length
    · obtain ⟨x, hx⟩ := some_of_lt (l := xs) (k := k) hlt
      obtain ⟨ad, rfl, hc⟩ := (HX.out.dr hd).at_ (map_at (Value.int .i64) hx)
      obtain ⟨ad2, rfl, hc2⟩ := (HY.out.dr hd).at_ (map_at (Value.int .i64) hx)
      clear hx
      go_wp2_with fail
      go_roundw
      case rel => exact ⟨k + 1, by omega, by go_num, hd⟩
      case measure => simp [intOf]; omega
    · have hlt2 : decide ((k : Int) < (xs.length : Int)) = false := decide_eq_false (by omega)
      go_wp2_with fail
      go_ret
      exact ⟨rfl, hd⟩
theorem iJoin_any (sp : UInt8) (l : List ByteArray) (A : Option Addr) (n c B : Nat) (w : World) (hn : l.length = n) (hl : l.length ≤ 1000) (hz : ∀ x ∈ l, x.size ≤ 400) (ho : Own w B 9 (.slice A n c) (l.map Value.string)) :
    Calls Tryz.prog 40 #[.slice A n c, .string { data := #[sp] }] w fun e w' => e = .returned (.string (strOf (jnS sp l))) ∧ Below w.heap.size w w' := by
  have h1 := iJoinS_any sp l A n c B w hn hl hz ho
  have H1 := Lib.hid h1
  clear h1 hz ho hn hl
  go_enter Tryz.func40, Tryz.ntmps40
  go_wp2_with fail
  refine H1.out.mono ?_
  rintro e w1 ⟨rfl, b1⟩
  go_wp2_with fail
  go_ret
  exact ⟨rfl, b1⟩
end Go.Proofs.YtbegecoocgkbiaaGreatDoor

/- DerivedWord, Join, ReturnLine, both. No condition but the bounds. -/
namespace Go.Proofs.YtbegecoocgkbiaaGreatDoor
open Go.RowKit
set_option linter.unusedVariables false

/-- The letters of the derived word. -/
def drL (s f : ByteArray) : List UInt8 := (retA s f).map fun x => ltr (atIx (fsL (retA s f)) x).toNat
def drB (s f : ByteArray) : Bool := decide (0 < (plsV s f).length) && decide ((fsL (retA s f)).length ≤ 4)
def drS (s f : ByteArray) : ByteArray := if drB s f = true then strOf (drL s f) else ⟨#[]⟩
theorem drL_len (s f : ByteArray) : (drL s f).length = (retA s f).length := by simp [drL]
theorem drL_take {s f x : ByteArray} {k : Nat} (h : (retA s f)[k]? = some x) : (drL s f).take (k + 1) = (drL s f).take k ++ [ltr (atIx (fsL (retA s f)) x).toNat] := by
  rw [List.take_add_one]
  unfold drL
  rw [List.getElem?_map, h]; rfl
theorem drS_no {s f : ByteArray} (h : drB s f = false) : drS s f = ⟨#[]⟩ := by rw [drS, h]; rfl
theorem drS_yes {s f : ByteArray} (h : drB s f = true) : drS s f = strOf (drL s f) := by rw [drS, h]; rfl
/-- The words of a list with points between them. -/
def jnL (l : List ByteArray) : List UInt8 := Lib.join (l.map L) [46]
theorem jn_snoc (l : List ByteArray) (x : ByteArray) : jnL (l ++ [x]) = if l = [] then L x else jnL l ++ [46] ++ L x := by
  induction l with
  | nil => simp [jnL, Lib.join, List.intercalate]
  | cons y l ih =>
    rw [if_neg (by simp)]
    cases l with
    | nil => simp [jnL, Lib.join, List.intercalate]
    | cons z l =>
      rw [if_neg (by simp)] at ih
      have h1 : ∀ m : List ByteArray, m ≠ [] → jnL (y :: m) = L y ++ [46] ++ jnL m := fun m hm => by
        cases m with
        | nil => exact absurd rfl hm
        | cons a b => simp [jnL, Lib.join, List.intercalate]
      rw [List.cons_append, h1 _ (by simp), ih, h1 _ (by simp)]
      simp
theorem jn_take (l : List ByteArray) (h : ∀ x ∈ l, x.size ≤ 400) : ∀ k, k ≤ l.length → (jnL (l.take k)).length ≤ 401 * k
  | 0, _ => by simp [jnL, Lib.join, List.intercalate]
  | k + 1, hk => by
    have h1 := jn_take l h k (by omega)
    obtain ⟨x, hx⟩ := some_of_lt (l := l) (k := k) (by omega)
    have h2 := h x (List.mem_of_getElem? hx)
    have he : jnL (l.take (k + 1)) = if l.take k = [] then L x else jnL (l.take k) ++ [46] ++ L x := by rw [List.take_add_one, hx]; exact jn_snoc _ _
    rw [he]
    split
    · rw [L_len]; omega
    · simp only [List.length_append, List.length_singleton, L_len]; omega
theorem jn_len (l : List ByteArray) (h : ∀ x ∈ l, x.size ≤ 400) : (jnL l).length ≤ 401 * l.length := by
  have := jn_take l h l.length (Nat.le_refl _)
  rwa [List.take_length] at this
def orS (s : ByteArray) : ByteArray := if s.size = 0 then { data := #[45] } else s
/-- What ReturnLine returns. -/
def rlS (s f : ByteArray) : ByteArray := if drB s f = true ∧ (fsL (retA s f)).length ≠ 0 then strOf (jnL (fsL (retA s f))) ++ { data := #[32] } ++ orS (drS s f) else { data := #[110, 111, 110, 101] }
theorem orDash_any (s : ByteArray) (w : World) : Calls Tryz.prog 94 #[.string s] w fun e w' => e = .returned (.string (orS s)) ∧ w = w' := by
  by_cases h : s.size = 0
  · have hemp : s.toList.isEmpty = true := by rw [ByteArray.toList_eq]; have : s.data.toList = [] := List.eq_nil_of_length_eq_zero (by rw [L_len]; exact h); rw [this]; rfl
    have H := Lib.hid h; clear h
    go_enter Tryz.func94, Tryz.ntmps94
    go_wp2_with fail
    go_ret
    exact ⟨by rw [orS, if_pos H.out]; rfl, rfl⟩
  · have hemp : s.toList.isEmpty = false := by
      rw [ByteArray.toList_eq]
      cases hq : s.data.toList with
      | nil => exact absurd (by rw [← L_len]; show s.data.toList.length = 0; rw [hq]; rfl) h
      | cons a b => rfl
    have H := Lib.hid h; clear h
    go_enter Tryz.func94, Tryz.ntmps94
    go_wp2_with fail
    go_ret
    exact ⟨by rw [orS, if_neg H.out]; rfl, rfl⟩
set_option maxRecDepth 4000 in
set_option maxHeartbeats 400000 in
theorem sJoin_any (l : List ByteArray) (A : Option Addr) (c B : Nat) (w : World) (hl : l.length ≤ 1000) (hz : ∀ x ∈ l, x.size ≤ 400) (hrd : Rds w B A (l.map Value.string)) :
    Calls Tryz.prog 222 #[.slice A l.length c, .string { data := #[46] }] w fun e w' => e = .returned (.string (strOf (jnL l))) ∧ w = w' := by
  have HR := Lib.hid hrd; have HZ := Lib.hid hz
  clear hrd hz
  go_enter Tryz.func222, Tryz.ntmps222
  go_wp2_with fail
  go_loop [5, 6, 7, 10] (fun v _ _ i => ∃ k : Nat, k ≤ l.length ∧ i = .int .i64 k ∧ ∃ acc : ByteArray, v = .string acc ∧ acc = strOf (jnL (l.take k))) (fun _ _ _ i => l.length - (intOf i).toNat)
  case atStart => exact ⟨0, by omega, rfl, _, rfl, rfl⟩
  case round =>
    obtain ⟨k, hk, rfl, acc, rfl, hacc⟩ := hrel
    have HACC := Lib.hid hacc
    by_cases hlt : k < l.length
    · obtain ⟨x, hx⟩ := some_of_lt (l := l) (k := k) hlt
      obtain ⟨ad, rfl, hc⟩ := HR.out.at_ (map_at Value.string hx)
      have hxs := HZ.out x (List.mem_of_getElem? hx)
      have hjn : jnL (l.take (k + 1)) = if l.take k = [] then L x else jnL (l.take k) ++ [46] ++ L x := by rw [List.take_add_one, hx]; exact jn_snoc _ _
      have hjl := jn_take l HZ.out k hk
      obtain ⟨sz, hsz⟩ : ∃ sz, (jnL (l.take k)).length = sz := ⟨_, rfl⟩
      have hs1 : acc.size = sz := by rw [hacc, strOf_size, hsz]
      have hsb : sz ≤ 401000 := by rw [← hsz]; omega
      have hxL : strOf (L x) = x := bytes_ext (by rw [show (strOf (L x)).data.toList = L (strOf (L x)) from rfl, strOf_L])
      clear hx hjl hsz hacc
      by_cases hk0 : k = 0
      · subst hk0
        have hfin : strOf (jnL (l.take (0 + 1))) = acc ++ x := by
          rw [HACC.out, hjn, if_pos (by simp), hxL]
          show x = strOf [] ++ x
          apply bytes_ext; simp [strOf, ByteArray.data_append]
        have HF := Lib.hid hfin
        have hc0 : w.cell? ad = some (.string x) := by simpa [Addr.add] using hc
        clear hjn hfin hxL
        go_wp2_with fail
        go_round
        case rel => exact ⟨0 + 1, by omega, by go_num, _, rfl, HF.out.symm⟩
        case measure => simp [intOf]; omega
      · have hne : ¬ l.take k = [] := by intro h; have := congrArg List.length h; rw [List.length_take, List.length_nil] at this; omega
        have hfin : strOf (jnL (l.take (k + 1))) = acc ++ { data := #[46] } ++ x := by
          rw [HACC.out, hjn, if_neg hne]
          conv => rhs; rw [← hxL]
          show _ = strOf (jnL (l.take k)) ++ strOf [46] ++ strOf (L x)
          rw [strOf_app, strOf_app]
        have hs2 : (acc ++ ({ data := #[46] } : ByteArray)).size = sz + 1 := by
          rw [ByteArray.size_append, hs1]; rfl
        have hkp : decide (0 < (k : Int)) = true := by simp; omega
        have HF := Lib.hid hfin
        clear hjn hfin hxL hne
        go_wp2_with fail
        go_round
        case rel => exact ⟨k + 1, by omega, by go_num, _, rfl, HF.out.symm⟩
        case measure => simp [intOf]; omega
    · have hkl : l.take k = l := List.take_of_length_le (by omega)
      have HFI := Lib.hid (by rw [hacc, hkl] : acc = strOf (jnL l)); clear hkl hacc
      go_wp2_with fail
      go_ret
      exact ⟨by rw [← HFI.out]; rfl, rfl⟩
end Go.Proofs.YtbegecoocgkbiaaGreatDoor
