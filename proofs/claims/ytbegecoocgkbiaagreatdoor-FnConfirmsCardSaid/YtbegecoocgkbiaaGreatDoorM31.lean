/- Texts of this claim, one behind the other: Stp, Unp, Ste, Cap. No condition but what each says. -/
import Derived.Test.YtbegecoocgkbiaaGreatDoorAvo
import Derived.Test.YtbegecoocgkbiaaGreatDoorM1
import Derived.Test.YtbegecoocgkbiaaGreatDoorPair
import Derived.Test.YtbegecoocgkbiaaGreatDoorM17
import Derived.Maps.Own
import Derived.Maps.OwnOps
import Derived.Maps.OwnSet
import Derived.Maps.RangeWalk
import Derived.Sort.EncStr
import Derived.RegionTactic
import Derived.BigRegion
import Derived.ChangeAlike
import Derived.Test.YtbegecoocgkbiaaGreatDoorFnm
/- Words that avoid a ban, letter by letter, by their last three letters: the plain part. No condition. -/
namespace Go.Proofs.YtbegecoocgkbiaaGreatDoor
open Go.RowKit
set_option linter.unusedVariables false

/-- The last three letters. -/
def tl3 (x : ByteArray) : ByteArray := x.extract (x.size - 3) x.size
/-- A number added to what stands beside a word. -/
def upd : List (ByteArray × Nat) → ByteArray → Nat → List (ByteArray × Nat)
  | [], w, c => [(w, c)]
  | (v, d) :: r, w, c => if w = v then (v, d + c) :: r else (v, d) :: upd r w c
def nms (P : List (ByteArray × Nat)) : List ByteArray := P.map (·.1)
def cns (P : List (ByteArray × Nat)) : List Nat := P.map (·.2)
theorem nms_len (P : List (ByteArray × Nat)) : (nms P).length = P.length := by simp [nms]
theorem cns_len (P : List (ByteArray × Nat)) : (cns P).length = P.length := by simp [cns]
theorem upd_new : ∀ (P : List (ByteArray × Nat)) (w : ByteArray) (c : Nat), w ∉ nms P → upd P w c = P ++ [(w, c)]
  | [], w, c, _ => rfl
  | (v, d) :: r, w, c, h => by
    have h1 : w ≠ v := fun e => h (by rw [e]; exact List.mem_cons_self)
    have h2 : w ∉ nms r := fun e => h (List.mem_cons_of_mem _ e)
    rw [upd, if_neg h1, upd_new r w c h2]; rfl
theorem upd_old : ∀ (P : List (ByteArray × Nat)) (w : ByteArray) (c : Nat) (i : Int), 0 ≤ i → 0 ≤ ixGo w (nms P) i → ∃ (k : Nat) (d : Nat), ixGo w (nms P) i = i + (k : Int) ∧ k < P.length ∧ (cns P)[k]? = some d ∧ nms (upd P w c) = nms P ∧ cns (upd P w c) = (cns P).set k (d + c)
  | [], w, c, i, _, h => by simp [nms, ixGo] at h
  | (v, d) :: r, w, c, i, hi, h => by
    rw [nms, List.map_cons, ← nms, ixGo] at h
    by_cases hw : w = v
    · refine ⟨0, d, ?_, by simp, rfl, ?_, ?_⟩
      · rw [nms, List.map_cons, ixGo, if_pos hw]; simp
      · rw [upd, if_pos hw]; rfl
      · rw [upd, if_pos hw]; rfl
    · rw [if_neg hw] at h
      obtain ⟨k, d', h1, h2, h3, h4, h5⟩ := upd_old r w c (i + 1) (by omega) h
      refine ⟨k + 1, d', ?_, by simpa using h2, h3, ?_, ?_⟩
      · rw [nms, List.map_cons, ← nms, ixGo, if_neg hw, h1]; omega
      · rw [upd, if_neg hw]; simp only [nms, List.map_cons] at h4 ⊢; rw [h4]
      · rw [upd, if_neg hw]; simp only [cns, List.map_cons, List.set_cons_succ] at h5 ⊢; rw [h5]
/-- The words with each letter more that avoid the ban, of the first k letters. -/
def stK (ban : List ByteArray) (e : ByteArray) (c : Nat) : Nat → List (ByteArray × Nat) → List (ByteArray × Nat)
  | 0, Q => Q
  | k + 1, Q => if avoidsB (e ++ strOf [ltr k]) ban then upd (stK ban e c k Q) (tl3 (e ++ strOf [ltr k])) c else stK ban e c k Q
def stE (ban : List ByteArray) (m : Nat) (P Q : List (ByteArray × Nat)) : List (ByteArray × Nat) := P.foldl (fun Q x => stK ban x.1 x.2 m Q) Q
def stp (ban : List ByteArray) (m : Nat) (P : List (ByteArray × Nat)) : List (ByteArray × Nat) := stE ban m P []
theorem stE_take {ban : List ByteArray} {m k : Nat} {P Q : List (ByteArray × Nat)} {x : ByteArray × Nat} (h : P[k]? = some x) : stE ban m (P.take (k + 1)) Q = stK ban x.1 x.2 m (stE ban m (P.take k) Q) := by
  rw [stE, List.take_add_one, h, List.foldl_append]; rfl
/-- A sum over words, each as often as its number says. -/
def val (f : ByteArray → Nat) (P : List (ByteArray × Nat)) : Nat := (P.map fun x => x.2 * f x.1).sum
theorem val_upd (f : ByteArray → Nat) : ∀ (P : List (ByteArray × Nat)) (w : ByteArray) (c : Nat), val f (upd P w c) = val f P + c * f w
  | [], w, c => by simp [upd, val]
  | (v, d) :: r, w, c => by
    unfold upd
    by_cases hw : w = v
    · subst hw; rw [if_pos rfl]; simp [val, Nat.add_mul]; omega
    · rw [if_neg hw]
      have := val_upd f r w c
      simp only [val, List.map_cons, List.sum_cons] at this ⊢; omega
/-- In how many ways n letters can stand behind a word that avoids the ban. -/
def sumTo (f : Nat → Nat) : Nat → Nat
  | 0 => 0
  | k + 1 => sumTo f k + f k
def cnt (ban : List ByteArray) (m : Nat) : Nat → ByteArray → Nat
  | 0, _ => 1
  | n + 1, e => sumTo (fun k => if avoidsB (e ++ strOf [ltr k]) ban then cnt ban m n (tl3 (e ++ strOf [ltr k])) else 0) m
theorem val_stK (f : ByteArray → Nat) (ban : List ByteArray) (e : ByteArray) (c : Nat) : ∀ (k : Nat) (Q : List (ByteArray × Nat)), val f (stK ban e c k Q) = val f Q + c * sumTo (fun k => if avoidsB (e ++ strOf [ltr k]) ban then f (tl3 (e ++ strOf [ltr k])) else 0) k
  | 0, Q => by simp [stK, sumTo]
  | k + 1, Q => by
    have ih := val_stK f ban e c k Q
    unfold stK sumTo
    cases h : avoidsB (e ++ strOf [ltr k]) ban
    · simp only [Bool.false_eq_true, if_false]; rw [ih]; rfl
    · simp only [if_true]; rw [val_upd, ih, Nat.mul_add]; omega
theorem val_stE (ban : List ByteArray) (m n : Nat) : ∀ (P Q : List (ByteArray × Nat)), val (cnt ban m n) (stE ban m P Q) = val (cnt ban m n) Q + val (cnt ban m (n + 1)) P
  | [], Q => by simp [stE, val]
  | x :: P, Q => by
    have ih := val_stE ban m n P (stK ban x.1 x.2 m Q)
    rw [stE, List.foldl_cons, ← stE, ih, val_stK]
    simp only [val, List.map_cons, List.sum_cons, cnt]; omega
theorem val_stp (ban : List ByteArray) (m n : Nat) (P : List (ByteArray × Nat)) : val (cnt ban m n) (stp ban m P) = val (cnt ban m (n + 1)) P := by
  rw [stp, val_stE]; simp [val]
/-- Each word once, of at most three letters of the four. -/
def wk3 (x : ByteArray) : Prop := x.size ≤ 3 ∧ ∀ c ∈ L x, 97 ≤ c.toNat ∧ c.toNat ≤ 100
def WK (P : List (ByteArray × Nat)) : Prop := (nms P).Nodup ∧ ∀ x ∈ nms P, wk3 x
theorem ltr_ok {k : Nat} (h : k < 4) : 97 ≤ (ltr k).toNat ∧ (ltr k).toNat ≤ 100 := by
  match k, h with
  | 0, _ => decide
  | 1, _ => decide
  | 2, _ => decide
  | 3, _ => decide
theorem tl3_ok {e : ByteArray} {k : Nat} (he : wk3 e) (hk : k < 4) : wk3 (tl3 (e ++ strOf [ltr k])) := by
  refine ⟨by unfold tl3; rw [ByteArray.size_extract]; omega, fun c hc => ?_⟩
  rw [tl3, L_extract] at hc
  have h2 : c ∈ L (e ++ strOf [ltr k]) := List.mem_of_mem_take (List.mem_of_mem_drop hc)
  simp only [L, ByteArray.data_append, Array.toList_append, List.mem_append] at h2
  rcases h2 with h2 | h2
  · exact he.2 c h2
  · have : c = ltr k := by simpa [strOf] using h2
    rw [this]; exact ltr_ok hk
theorem upd_nms (P : List (ByteArray × Nat)) (w : ByteArray) (c : Nat) : nms (upd P w c) = if hasS (nms P) w = true then nms P else nms P ++ [w] := by
  by_cases h : w ∈ nms P
  · rw [if_pos ((hasS_mem _ _).2 h)]
    obtain ⟨k, d, _, _, _, h4, _⟩ := upd_old P w c 0 (Int.le_refl _) ((ixGo_mem w (nms P) 0 (Int.le_refl _)).2 h)
    exact h4
  · rw [if_neg (fun e => h ((hasS_mem _ _).1 e)), upd_new P w c h]; simp [nms]
theorem WK.upd {P : List (ByteArray × Nat)} (h : WK P) {w : ByteArray} (hw : wk3 w) (c : Nat) : WK (upd P w c) := by
  unfold WK
  rw [upd_nms]
  by_cases hm : w ∈ nms P
  · rw [if_pos ((hasS_mem _ _).2 hm)]; exact h
  · rw [if_neg (fun e => hm ((hasS_mem _ _).1 e))]
    refine ⟨List.nodup_append.2 ⟨h.1, by simp, fun a ha b hb => by rw [List.mem_singleton.1 hb]; exact fun e => hm (by rw [← e]; exact ha)⟩, fun x hx => ?_⟩
    rcases List.mem_append.1 hx with hx | hx
    · exact h.2 x hx
    · rw [List.mem_singleton.1 hx]; exact hw
theorem WK.stK {ban : List ByteArray} {e : ByteArray} {c : Nat} (he : wk3 e) : ∀ {k : Nat} {Q : List (ByteArray × Nat)}, k ≤ 4 → WK Q → WK (stK ban e c k Q)
  | 0, Q, _, h => h
  | k + 1, Q, hk, h => by
    have ih := WK.stK (ban := ban) (c := c) he (k := k) (by omega) h
    unfold Go.Proofs.YtbegecoocgkbiaaGreatDoor.stK
    split
    · exact ih.upd (tl3_ok he (by omega)) c
    · exact ih
theorem WK.stE {ban : List ByteArray} {m : Nat} (hm : m ≤ 4) : ∀ {P Q : List (ByteArray × Nat)}, (∀ x ∈ nms P, wk3 x) → WK Q → WK (stE ban m P Q)
  | [], Q, _, h => h
  | x :: P, Q, hp, h => WK.stE hm (P := P) (fun y hy => hp y (List.mem_cons_of_mem _ hy)) (WK.stK (hp x.1 List.mem_cons_self) hm h)
theorem WK.nil : WK [] := ⟨List.nodup_nil, fun x h => by simp [nms] at h⟩
theorem pigeon : ∀ (n : Nat) (l : List Nat), l.Nodup → (∀ x ∈ l, x < n) → l.length ≤ n
  | 0, l, _, h => by
    cases l with
    | nil => simp
    | cons a l => exact absurd (h a List.mem_cons_self) (by omega)
  | n + 1, l, hd, h => by
    have h1 := pigeon n (l.erase n) (hd.erase n) fun x hx => by
      have h2 := (List.Nodup.mem_erase_iff hd).1 hx
      have h3 := h x h2.2
      have := h2.1
      omega
    have h2 := List.length_erase_le (a := n) (l := l)
    by_cases hm : n ∈ l
    · rw [List.length_erase_of_mem hm] at h1; omega
    · rw [List.erase_of_not_mem hm] at h1; omega
theorem sub_len {α : Type} [DecidableEq α] : ∀ (l M : List α), l.Nodup → (∀ x ∈ l, x ∈ M) → l.length ≤ M.length
  | [], M, _, _ => by simp
  | a :: l, M, hd, h => by
    have h1 := List.nodup_cons.1 hd
    have h2 := sub_len l (M.erase a) h1.2 fun x hx => (List.mem_erase_of_ne (fun e => h1.1 (by rw [← e]; exact hx))).2 (h x (List.mem_cons_of_mem _ hx))
    have h3 := h a List.mem_cons_self
    rw [List.length_erase_of_mem h3] at h2
    have h4 := List.length_pos_of_mem h3
    rw [List.length_cons]; omega
def kk (l : List UInt8) : Nat := l.foldl (fun a c => a * 5 + (c.toNat - 96)) 0
theorem kk_lt {l : List UInt8} (h : l.length ≤ 3) (hc : ∀ c ∈ l, 97 ≤ c.toNat ∧ c.toNat ≤ 100) : kk l < 125 := by
  rcases l with _ | ⟨a, _ | ⟨b, _ | ⟨c, _ | ⟨d, l⟩⟩⟩⟩
  · decide
  · have := hc a (by simp); simp [kk]; omega
  · have := hc a (by simp); have := hc b (by simp); simp [kk]; omega
  · have := hc a (by simp); have := hc b (by simp); have := hc c (by simp); simp [kk]; omega
  · simp at h
theorem kk_inj {l m : List UInt8} (h1 : l.length ≤ 3) (hc : ∀ c ∈ l, 97 ≤ c.toNat ∧ c.toNat ≤ 100) (h2 : m.length ≤ 3) (hd : ∀ c ∈ m, 97 ≤ c.toNat ∧ c.toNat ≤ 100) (h : kk l = kk m) : l = m := by
  rcases l with _ | ⟨a, _ | ⟨b, _ | ⟨c, _ | ⟨d, l⟩⟩⟩⟩ <;> rcases m with _ | ⟨a', _ | ⟨b', _ | ⟨c', _ | ⟨d', m⟩⟩⟩⟩ <;>
    first
    | rfl
    | (simp only [List.length_cons] at h1; omega)
    | (simp only [List.length_cons] at h2; omega)
    | (simp only [List.forall_mem_cons, kk, List.foldl_cons, List.foldl_nil] at hc hd h
       first
       | (exfalso; omega)
       | (have e1 : a = a' := UInt8.toNat_inj.1 (by omega)
          first
          | (rw [e1]; done)
          | (have e2 : b = b' := UInt8.toNat_inj.1 (by omega)
             first
             | (rw [e1, e2]; done)
             | (have e3 : c = c' := UInt8.toNat_inj.1 (by omega)
                rw [e1, e2, e3]; done))))
theorem nodup_inj {α β : Type} (f : α → β) : ∀ {l : List α}, l.Nodup → (∀ x ∈ l, ∀ y ∈ l, f x = f y → x = y) → (l.map f).Nodup
  | [], _, _ => List.nodup_nil
  | a :: l, hd, h => by
    have h1 := List.nodup_cons.1 hd
    rw [List.map_cons, List.nodup_cons]
    refine ⟨fun hm => ?_, nodup_inj f h1.2 fun x hx y hy => h x (List.mem_cons_of_mem _ hx) y (List.mem_cons_of_mem _ hy)⟩
    obtain ⟨y, hy, he⟩ := List.mem_map.1 hm
    have := h y (List.mem_cons_of_mem _ hy) a List.mem_cons_self he
    exact h1.1 (by rw [← this]; exact hy)
theorem WK.len {P : List (ByteArray × Nat)} (h : WK P) : P.length ≤ 125 := by
  have h1 : ((nms P).map fun x => kk (L x)).Nodup := nodup_inj _ h.1 fun x hx y hy he => bytes_ext (kk_inj (by have := (h.2 x hx).1; rw [L_len]; exact this) (h.2 x hx).2 (by have := (h.2 y hy).1; rw [L_len]; exact this) (h.2 y hy).2 he)
  have h2 := pigeon 125 _ h1 fun k hk => by
    obtain ⟨x, hx, rfl⟩ := List.mem_map.1 hk
    exact kk_lt (by have := (h.2 x hx).1; rw [L_len]; exact this) (h.2 x hx).2
  rwa [List.length_map, nms_len] at h2
end Go.Proofs.YtbegecoocgkbiaaGreatDoor

/- Words that avoid a ban by their tails: the plain part of IsUnavoidable; what a map's keys are. No condition. -/
namespace Go.Proofs.YtbegecoocgkbiaaGreatDoor
open Go.RowKit Go.Maps
set_option linter.unusedVariables false

/-- x stands behind e with one letter more. -/
def Nx (ban : List ByteArray) (m : Nat) (e x : ByteArray) : Prop := ∃ j, j < m ∧ avoidsB (e ++ strOf [ltr j]) ban = true ∧ x = tl3 (e ++ strOf [ltr j])
theorem mem_upd (P : List (ByteArray × Nat)) (w : ByteArray) (c : Nat) (x : ByteArray) : x ∈ nms (upd P w c) ↔ x ∈ nms P ∨ x = w := by
  rw [upd_nms]
  by_cases h : w ∈ nms P
  · rw [if_pos ((hasS_mem _ _).2 h)]
    exact ⟨.inl, fun h2 => h2.elim id fun e => by rw [e]; exact h⟩
  · rw [if_neg (fun e => h ((hasS_mem _ _).1 e)), List.mem_append, List.mem_singleton]
theorem mem_stK (ban : List ByteArray) (e : ByteArray) (c : Nat) (x : ByteArray) : ∀ (k : Nat) (Q : List (ByteArray × Nat)), x ∈ nms (stK ban e c k Q) ↔ x ∈ nms Q ∨ Nx ban k e x
  | 0, Q => by
    rw [stK]
    exact ⟨.inl, fun h => h.elim id fun ⟨j, hj, _⟩ => by omega⟩
  | k + 1, Q => by
    have ih := mem_stK ban e c x k Q
    unfold stK
    split
    · rename_i ha
      rw [mem_upd, ih]
      constructor
      · rintro ((h | ⟨j, hj, h⟩) | h)
        · exact .inl h
        · exact .inr ⟨j, by omega, h⟩
        · exact .inr ⟨k, by omega, ha, h⟩
      · rintro (h | ⟨j, hj, h1, h2⟩)
        · exact .inl (.inl h)
        · by_cases e2 : j = k
          · subst e2; exact .inr h2
          · exact .inl (.inr ⟨j, by omega, h1, h2⟩)
    · rename_i ha
      rw [ih]
      constructor
      · rintro (h | ⟨j, hj, h⟩)
        · exact .inl h
        · exact .inr ⟨j, by omega, h⟩
      · rintro (h | ⟨j, hj, h1, h2⟩)
        · exact .inl h
        · by_cases e2 : j = k
          · subst e2; exact absurd h1 ha
          · exact .inr ⟨j, by omega, h1, h2⟩
theorem mem_stE (ban : List ByteArray) (m : Nat) (x : ByteArray) : ∀ (P Q : List (ByteArray × Nat)), x ∈ nms (stE ban m P Q) ↔ x ∈ nms Q ∨ ∃ e ∈ nms P, Nx ban m e x
  | [], Q => by simp [stE, nms]
  | y :: P, Q => by
    have ih := mem_stE ban m x P (stK ban y.1 y.2 m Q)
    rw [stE, List.foldl_cons, ← stE, ih, mem_stK]
    simp only [nms, List.map_cons, List.mem_cons, exists_eq_or_imp, or_assoc]
/-- The words one letter further on. -/
def nst (ban : List ByteArray) (m : Nat) (es : List ByteArray) : List ByteArray := nms (stp ban m (es.map fun e => (e, 0)))
theorem nms_zero (es : List ByteArray) : nms (es.map fun e => (e, 0)) = es := by
  simp [nms, List.map_map, Function.comp_def]
theorem cns_zero (es : List ByteArray) : cns (es.map fun e => (e, 0)) = List.replicate es.length 0 := by
  rw [cns, List.map_map]
  exact List.map_const' ..
theorem mem_nst (ban : List ByteArray) (m : Nat) (es : List ByteArray) (x : ByteArray) : x ∈ nst ban m es ↔ ∃ e ∈ es, Nx ban m e x := by
  rw [nst, stp, mem_stE, nms_zero]
  simp [nms]
/-- The words i letters on. -/
def ess (ban : List ByteArray) (m : Nat) : Nat → List ByteArray
  | 0 => [ByteArray.empty]
  | i + 1 => nst ban m (ess ban m i)
theorem wk_stp {ban : List ByteArray} {m : Nat} (hm : m ≤ 4) {P : List (ByteArray × Nat)} (h : ∀ x ∈ nms P, wk3 x) : WK (stp ban m P) := WK.stE hm h WK.nil
theorem ess_ok (ban : List ByteArray) {m : Nat} (hm : m ≤ 4) : ∀ (i : Nat), (∀ x ∈ ess ban m i, wk3 x) ∧ (ess ban m i).length ≤ 125
  | 0 => ⟨fun x hx => by
      have : x = ByteArray.empty := by simpa [ess] using hx
      subst this
      exact ⟨by decide, fun c hc => by simp [L] at hc⟩, by simp [ess]⟩
  | i + 1 => by
    have h := wk_stp (ban := ban) hm (P := (ess ban m i).map fun e => (e, 0)) (by rw [nms_zero]; exact (ess_ok ban hm i).1)
    exact ⟨h.2, by rw [ess, nst, nms_len]; exact h.len⟩
def unV (m : Int) (ban : List ByteArray) : Bool := decide (1 ≤ m ∧ m ≤ 4) && banOk ban && (ess ban m.toNat 68).isEmpty

section
variable {P : Program} {k : TypeId} {R : Value → Option (DataW Unit × List MemPlace)} {w : World} {b n : Nat} {D : DataW Unit}
abbrev ky (x : ByteArray) : Lit := .string (L x)
theorem ky_inj {x y : ByteArray} (h : ky x = ky y) : x = y := bytes_ext (by simpa [ky] using h)
/-- The map's keys are those of which S holds. -/
def KeyIs (D : DataW Unit) (S : ByteArray → Prop) : Prop := ∀ x, Maps.has D (ky x) = true ↔ S x
theorem own_tight (h : w.ownsMap P k R b n D) : w.ownsMap P k R b (Maps.size D) D := by
  obtain ⟨es, clock, hb, F, hs, rfl⟩ := h
  exact ⟨es, clock, hb, F, by rw [Maps.size_eq, length_read]; exact Nat.le_refl _, rfl⟩
theorem own_keys (h : w.ownsMap P k R b n D) (K : Keyed P k) (hk : P.underlying k = some .string) : ∃ xs : List ByteArray, xs.Nodup ∧ xs.length = Maps.size D ∧ ∀ x ∈ xs, Maps.has D (ky x) = true := by
  obtain ⟨es, clock, hb, F, hs, rfl⟩ := h
  have hkeys := fit_keys F
  have hap := fit_apart K F
  have hper := WideShapes.sorted_perm (es.toList.map (WideElems.rg P k R))
  obtain ⟨l, hl⟩ : ∃ l, es.toList.map (WideElems.rg P k R) = l := ⟨_, rfl⟩
  rw [hl] at hkeys hap hper ⊢
  have hstr : ∀ p ∈ l, ∃ s : List UInt8, p.1 = .string s := fun p hp => by
    obtain ⟨v, hv⟩ := hkeys p hp
    obtain ⟨x, _, hx, _⟩ := Maps.keyOf_str hk hv
    exact ⟨x, hx⟩
  refine ⟨l.map fun p => match p.1 with | .string s => strOf s | _ => ByteArray.empty, ?_, ?_, ?_⟩
  · rw [List.nodup_iff_pairwise_ne, List.pairwise_map]
    refine List.Pairwise.imp_of_mem ?_ hap
    intro p q hp hq hne he
    obtain ⟨s, hs⟩ := hstr p hp
    obtain ⟨t, ht⟩ := hstr q hq
    rw [hs, ht] at he
    apply hne
    rw [hs, ht]
    have := congrArg L he
    simp only [strOf_L] at this
    rw [this]
  · rw [List.length_map, Maps.size_eq, hper.length_eq]
  · intro x hx
    obtain ⟨p, hp, rfl⟩ := List.mem_map.1 hx
    obtain ⟨s, hs⟩ := hstr p hp
    rw [Maps.has_eq, List.any_eq_true]
    refine ⟨p, hper.mem_iff.2 hp, ?_⟩
    rw [hs]
    simp only [ky, strOf_L]
    simp [Lit.sameKey]
theorem own_size (h : w.ownsMap P k R b n D) (K : Keyed P k) (hk : P.underlying k = some .string) {S : ByteArray → Prop} (hS : KeyIs D S) {es : List ByteArray} (he : ∀ x, S x → x ∈ es) : Maps.size D ≤ es.length := by
  obtain ⟨xs, h1, h2, h3⟩ := own_keys h K hk
  rw [← h2]
  exact sub_len xs es h1 fun x hx => he x ((hS x).1 (h3 x hx))
theorem own_size3 (h : w.ownsMap P k R b n D) (K : Keyed P k) (hk : P.underlying k = some .string) {S : ByteArray → Prop} (hS : KeyIs D S) (he : ∀ x, S x → wk3 x) : Maps.size D ≤ 125 := by
  obtain ⟨xs, h1, h2, h3⟩ := own_keys h K hk
  rw [← h2]
  have h4 : ((xs.map fun x => (x, 0)).map (·.1)) = xs := by simp [List.map_map, Function.comp_def]
  have h5 : WK (xs.map fun x => (x, 0)) := ⟨by rw [nms, h4]; exact h1, by rw [nms, h4]; exact fun x hx => he x ((hS x).1 (h3 x hx))⟩
  have := h5.len
  rwa [List.length_map] at this
theorem own_empty (h : w.ownsMap P k R b n D) (K : Keyed P k) (hk : P.underlying k = some .string) {es : List ByteArray} (hS : KeyIs D (· ∈ es)) : (Maps.size D = 0) ↔ es.isEmpty = true := by
  constructor
  · intro h0
    cases es with
    | nil => rfl
    | cons x es =>
      have h1 := (hS x).2 List.mem_cons_self
      obtain ⟨es', clock, hb, F, hs, rfl⟩ := h
      rw [Maps.size_eq] at h0
      rw [Maps.has_eq, List.eq_nil_of_length_eq_zero h0] at h1
      cases h1
  · intro h0
    have := own_size h K hk hS (es := es) fun x hx => hx
    rw [List.isEmpty_iff.1 h0] at this
    simpa using this
theorem ky_key (x : ByteArray) : WideAt.IsKeyLit (ky x) := trivial
theorem ky_same (x y : ByteArray) : (ky x).sameKey (ky y) = decide (x = y) := by
  by_cases h : x = y
  · subst h; simp [Lit.sameKey]
  · rw [Maps.sameKey_ne (fun e => h (ky_inj e)), decide_eq_false h]
theorem key_none : KeyIs (.map []) (fun _ => False) := fun x => by simp [Maps.has]
theorem key_put {S S2 : ByteArray → Prop} (hm : Maps.IsMap D) (h : KeyIs D S) (y : ByteArray) (d : DataW Unit) (h2 : ∀ x, S2 x ↔ S x ∨ x = y) : KeyIs (D.put (ky y) d) S2 := fun x => by
  rw [h2]
  by_cases he : x = y
  · subst he
    rw [Maps.has_put_same hm (ky_key x)]
    exact ⟨fun _ => .inr rfl, fun _ => rfl⟩
  · rw [Maps.has_put_other (fun e => he (ky_inj e)), h x]
    exact ⟨.inl, fun h3 => h3.elim id fun e => absurd e he⟩
end
/-- The elements of a set: all are true. -/
def tE (v : Value) : Option (DataW Unit × List MemPlace) := match v with
  | .bool true => some (.lit (.bool true), [])
  | _ => none
theorem tE_mk : tE (.bool true) = some (.lit (.bool true), []) := rfl
theorem tE_inv {v : Value} {z : DataW Unit × List MemPlace} (h : tE v = some z) : v = .bool true := by
  unfold tE at h
  split at h
  · rfl
  · cases h
/-- An entry of a map's literal. -/
theorem wpList_insert_own {P : Program} (w : World) {ops : Array Oper} {rest : List Oper} {o : Oper} {a : Act} {Q : Exit → Act → World → Prop}
    (hg : o.guard = none) (m x v : Operand) (t : TypeId) (hop : o.op = Op.insert t m x v)
    (k e : TypeId) (K : Keyed P k) (ht : P.underlying t = some (.map k e)) (R : Value → Option (DataW Unit × List MemPlace)) (b n : Nat) (D : DataW Unit)
    (hm : a.eval m = .map (some b)) (hown : w.ownsMap P k R b n D) (hn : n < maxLen) (key val : Value) (kl : Lit) (hx : a.eval x = key) (hv : a.eval v = val) (hkey : keyOf P k key = some kl)
    (d : DataW Unit) (ps : List MemPlace) (hval : R val = some (d, ps))
    (hK : ∀ w', w'.ownsMap P k R b (n + 1) (D.put kl d) → w.grownBy w' (some b) → wpList P ops Q rest (a.put o.dst undef) w') :
    wpList P ops Q (o :: rest) a w := by
  refine wpList_plain hg fun K' hK' => ?_
  obtain ⟨w', hrun, r1, r2⟩ := hown.update K ht hn hkey hval
  unfold Oper.wp
  simp [execOp, hop, hm, hx, hv, hrun, Result.andThen]
  exact hK' _ _ (hK w' r1 r2)
theorem ess_zero (ban : List ByteArray) (m : Nat) : ess ban m 0 = [ByteArray.empty] := rfl
theorem ess_succ (ban : List ByteArray) (m i : Nat) : ess ban m (i + 1) = nst ban m (ess ban m i) := rfl
theorem ess_next (ban : List ByteArray) (m i : Nat) : nms (stp ban m ((ess ban m i).map fun e => (e, 0))) = ess ban m (i + 1) := rfl
attribute [irreducible] ess
end Go.Proofs.YtbegecoocgkbiaaGreatDoor

/- One letter further on, walked: what the reference's step returns; the last three letters. No condition but the bounds. -/
namespace Go.Proofs.YtbegecoocgkbiaaGreatDoor
open Go.RowKit
set_option linter.unusedVariables false

theorem banOk_len {ban : List ByteArray} (h : banOk ban = true) : ban.length ≤ 8 := by
  unfold banOk at h
  simp only [Bool.and_eq_true, decide_eq_true_eq] at h
  exact h.2
abbrev iN (n : Nat) : Value := .int .i64 (n : Int)
def sm (P : List (ByteArray × Nat)) : Nat := (cns P).sum
theorem sm_upd : ∀ (P : List (ByteArray × Nat)) (w : ByteArray) (c : Nat), sm (upd P w c) = sm P + c
  | [], w, c => by simp [upd, sm, cns]
  | (v, d) :: r, w, c => by
    unfold upd
    split
    · simp [sm, cns]; omega
    · have := sm_upd r w c
      simp only [sm, cns, List.map_cons, List.sum_cons] at this ⊢; omega
theorem sm_stK (ban : List ByteArray) (e : ByteArray) (c : Nat) : ∀ (k : Nat) (Q : List (ByteArray × Nat)), sm (stK ban e c k Q) ≤ sm Q + k * c
  | 0, Q => by simp [stK]
  | k + 1, Q => by
    have ih := sm_stK ban e c k Q
    unfold stK
    rw [Nat.succ_mul]
    split
    · rw [sm_upd]; omega
    · omega
theorem sm_stE (ban : List ByteArray) (m : Nat) : ∀ (P Q : List (ByteArray × Nat)), sm (stE ban m P Q) ≤ sm Q + m * sm P
  | [], Q => by simp [stE]
  | x :: P, Q => by
    have ih := sm_stE ban m P (stK ban x.1 x.2 m Q)
    have h2 := sm_stK ban x.1 x.2 m Q
    rw [stE, List.foldl_cons, ← stE]
    have : m * sm (x :: P) = m * x.2 + m * sm P := by simp [sm, cns, Nat.mul_add]
    omega
theorem sm_at {P : List (ByteArray × Nat)} {i d : Nat} (h : (cns P)[i]? = some d) : d ≤ sm P := by
  unfold sm
  generalize cns P = l at h
  induction l generalizing i with
  | nil => simp at h
  | cons a l ih =>
    cases i with
    | zero => simp at h; subst h; simp
    | succ i => have := ih (i := i) (by simpa using h); simp; omega
theorem sm_take (P : List (ByteArray × Nat)) (i : Nat) : sm (P.take i) ≤ sm P := by
  have : sm P = sm (P.take i) + sm (P.drop i) := by
    rw [sm, sm, sm, ← List.sum_append, cns, cns, cns, ← List.map_append, List.take_append_drop]
  omega
/-- The state before the i-th word's k-th letter. -/
def stS (ban : List ByteArray) (m : Nat) (P : List (ByteArray × Nat)) (i : Nat) (e : ByteArray) (c k : Nat) : List (ByteArray × Nat) := stK ban e c k (stE ban m (P.take i) [])
theorem stS_ok {ban : List ByteArray} {m i k : Nat} {P : List (ByteArray × Nat)} {e : ByteArray} {c : Nat} (hm : m ≤ 4) (hk : k ≤ 4) (hwk : ∀ x ∈ nms P, wk3 x) (he : wk3 e) : (stS ban m P i e c k).length ≤ 125 ∧ sm (stS ban m P i e c k) ≤ 4 * sm P + 4 * c := by
  have h1 : WK (stE ban m (P.take i) []) := WK.stE hm (fun x hx => hwk x (by
    rw [nms, List.map_take] at hx
    exact List.mem_of_mem_take hx)) WK.nil
  refine ⟨(WK.stK he hk h1).len, ?_⟩
  have h2 := sm_stK ban e c k (stE ban m (P.take i) [])
  have h3 := sm_stE ban m (P.take i) []
  have h4 := sm_take P i
  have h5 : m * sm (P.take i) ≤ 4 * sm P := Nat.mul_le_mul hm h4
  have h6 : k * c ≤ 4 * c := Nat.mul_le_mul_right _ hk
  have h7 : sm [] = 0 := rfl
  unfold stS
  omega
theorem maxl (n : Nat) : max 0 ((n : Int) - 3) = ((n - 3 : Nat) : Int) := by omega
theorem maxr (n : Nat) : max ((n : Int) - 3) 0 = ((n - 3 : Nat) : Int) := by omega
theorem tail_any (s : ByteArray) (hs : s.size ≤ 1048576) (w : World) :
    Calls Tryz.prog 127 #[.string s] w fun e w' => e = .returned (.string (tl3 s)) ∧ w = w' := by
  have h1 := maxr s.size
  have h2 : ((s.size - 3 : Nat) : Int) ≤ (s.size : Int) := by omega
  have h3 : tl3 s = s.extract (s.size - 3) s.size := rfl
  have H3 := Lib.hid h3
  clear h3
  go_enter Tryz.func127, Tryz.ntmps127
  go_wp2_with fail
  go_ret
  exact ⟨by rw [H3.out]; rfl, rfl⟩
end Go.Proofs.YtbegecoocgkbiaaGreatDoor

/- Counting the words that avoid a ban with a table of what is known: the plain part. No condition. -/
namespace Go.Proofs.YtbegecoocgkbiaaGreatDoor
open Go.RowKit Go.Maps
set_option linter.unusedVariables false

theorem sumTo_le {f : Nat → Nat} {b : Nat} : ∀ (k : Nat), (∀ j, j < k → f j ≤ b) → sumTo f k ≤ k * b
  | 0, _ => by simp [sumTo]
  | k + 1, h => by
    have h1 := sumTo_le k fun j hj => h j (by omega)
    have h2 := h k (by omega)
    rw [sumTo, Nat.succ_mul]; omega
theorem cnt_le (ban : List ByteArray) (m : Nat) (hm : m ≤ 4) : ∀ (n : Nat) (e : ByteArray), cnt ban m n e ≤ 4 ^ n
  | 0, e => by simp [cnt]
  | n + 1, e => by
    rw [cnt]
    refine Nat.le_trans (sumTo_le (b := 4 ^ n) m fun j hj => ?_) ?_
    · split
      · exact cnt_le ban m hm n _
      · exact Nat.zero_le _
    · rw [Nat.pow_succ, Nat.mul_comm]; exact Nat.mul_le_mul_left _ hm
/-- The number after j letters. -/
def cntK (ban : List ByteArray) (m n : Nat) (e : ByteArray) (j : Nat) : Nat := sumTo (fun k => if avoidsB (e ++ strOf [ltr k]) ban then cnt ban m n (tl3 (e ++ strOf [ltr k])) else 0) j
theorem cntK_end (ban : List ByteArray) (m n : Nat) (e : ByteArray) : cntK ban m n e m = cnt ban m (n + 1) e := rfl
theorem cntK_zero (ban : List ByteArray) (m n : Nat) (e : ByteArray) : cntK ban m n e 0 = 0 := rfl
theorem cntK_no {ban : List ByteArray} {m n j : Nat} {e : ByteArray} (h : avoidsB (e ++ strOf [ltr j]) ban = false) : cntK ban m n e (j + 1) = cntK ban m n e j := by
  simp [cntK, sumTo, h]
theorem cntK_yes {ban : List ByteArray} {m n j : Nat} {e : ByteArray} (h : avoidsB (e ++ strOf [ltr j]) ban = true) : cntK ban m n e (j + 1) = cntK ban m n e j + cnt ban m n (tl3 (e ++ strOf [ltr j])) := by
  simp [cntK, sumTo, h]
theorem pow18 {n : Nat} (h : n ≤ 18) : 4 ^ n ≤ 68719476736 := by
  calc 4 ^ n ≤ 4 ^ 18 := Nat.pow_le_pow_right (by decide) h
    _ = 68719476736 := by decide
theorem cntK_le (ban : List ByteArray) {m n j : Nat} (e : ByteArray) (hm : m ≤ 4) (hn : n ≤ 17) (hj : j ≤ 4) : cntK ban m n e j ≤ 274877906944 := by
  refine Nat.le_trans (sumTo_le (b := 68719476736) j fun k hk => ?_) (by omega)
  split
  · exact Nat.le_trans (cnt_le ban m hm n _) (pow18 (by omega))
  · omega
/-- How many entries are laid at most. -/
def sto : Nat → Nat
  | 0 => 0
  | n + 1 => 4 * sto n + 1
theorem sto_le : ∀ (n : Nat), sto n ≤ 4 ^ n
  | 0 => by decide
  | 1 => by decide
  | n + 2 => by
    have := sto_le (n + 1)
    have h2 : 4 * sto (n + 1) + 1 ≤ 4 * sto (n + 1) + 1 := Nat.le_refl _
    have h3 : sto (n + 1) + 1 ≤ 4 ^ (n + 1) := sto_lt n
    rw [sto, Nat.pow_succ]; omega
where
  sto_lt : ∀ (n : Nat), sto (n + 1) + 1 ≤ 4 ^ (n + 1)
  | 0 => by decide
  | n + 1 => by
    have := sto_lt n
    rw [sto, Nat.pow_succ]; omega
/-- The key of an entry. -/
def keyW (i : Nat) (e : ByteArray) : ByteArray := fmtI (i : Int) ++ e
def isDg (c : UInt8) : Bool := decide (48 ≤ c.toNat ∧ c.toNat ≤ 57)
theorem small_dg : ∀ i : Nat, i < 19 → (Lib.itoa (i : Int)).all isDg = true ∧ ∀ j : Nat, j < 19 → Lib.itoa (i : Int) = Lib.itoa (j : Int) → i = j := by decide +kernel
theorem take_dg : ∀ (l m : List UInt8), l.all isDg = true → (∀ c ∈ m, 97 ≤ c.toNat ∧ c.toNat ≤ 100) → (l ++ m).takeWhile isDg = l
  | [], [], _, _ => rfl
  | [], c :: m, _, h => by
    have := h c List.mem_cons_self
    have hd : isDg c = false := decide_eq_false (by omega)
    rw [List.nil_append, List.takeWhile_cons, hd]; rfl
  | a :: l, m, h1, h2 => by
    simp only [List.all_cons, Bool.and_eq_true] at h1
    rw [List.cons_append, List.takeWhile_cons, if_pos h1.1, take_dg l m h1.2 h2]
theorem keyW_inj {i j : Nat} {e f : ByteArray} (hi : i ≤ 18) (hj : j ≤ 18) (he : wk3 e) (hf : wk3 f) (h : keyW i e = keyW j f) : i = j ∧ e = f := by
  have h1 : Lib.itoa (i : Int) ++ L e = Lib.itoa (j : Int) ++ L f := by
    have := congrArg L h
    simpa [keyW, fmtI, L, strOf, ByteArray.data_append] using this
  have h2 := take_dg _ _ (small_dg i (by omega)).1 he.2
  rw [h1, take_dg _ _ (small_dg j (by omega)).1 hf.2] at h2
  have hij := (small_dg i (by omega)).2 j (by omega) h2.symm
  subst hij
  exact ⟨rfl, bytes_ext (List.append_cancel_left h1)⟩
theorem keyW_size {i : Nat} {e : ByteArray} (hi : i ≤ 18) (he : wk3 e) : (keyW i e).size ≤ 1000 := by
  have := fmtI_size (z := (i : Int)) ⟨by omega, by omega⟩
  have := he.1
  rw [keyW, ByteArray.size_append]; omega
/-- What is known is true. -/
def Snd (ban : List ByteArray) (m : Nat) (D : DataW Unit) : Prop := ∀ i e, i ≤ 18 → wk3 e → Maps.has D (ky (keyW i e)) = true → D.atKey (ky (keyW i e)) (.lit (.int .i64 0)) = .lit (.int .i64 (cnt ban m i e))
theorem snd_none (ban : List ByteArray) (m : Nat) : Snd ban m (.map []) := fun i e _ _ h => by cases h
theorem snd_put {ban : List ByteArray} {m : Nat} {D : DataW Unit} (h : Snd ban m D) (hD : IsMap D) {i : Nat} {e : ByteArray} (hi : i ≤ 18) (he : wk3 e) : Snd ban m (D.put (ky (keyW i e)) (.lit (.int .i64 (cnt ban m i e)))) := fun j f hj hf hh => by
  by_cases hk : keyW j f = keyW i e
  · obtain ⟨rfl, rfl⟩ := keyW_inj hj hi hf he hk
    rw [Maps.atKey_put_same hD (ky_key _)]
  · have hne : ky (keyW j f) ≠ ky (keyW i e) := fun e2 => hk (ky_inj e2)
    rw [Maps.has_put_other hne] at hh
    rw [Maps.atKey_put_other hne]
    exact h j f hj hf hh
end Go.Proofs.YtbegecoocgkbiaaGreatDoor
