/- Words that avoid a ban, letter by letter, by their last three letters: the plain part. No condition. -/
import Derived.Test.YtaihigaafjmpiaaDoorAvo
import Derived.Test.YtaihigaafjmpiaaDoorAbc
import Derived.Test.YtaihigaafjmpiaaDoorPair
import Derived.Test.YtaihigaafjmpiaaDoorApp4
namespace Go.Proofs.YtaihigaafjmpiaaDoor
open Go.RowKit
set_option linter.unusedVariables false

/-- The last three letters. -/
def tl3 (x : ByteArray) : ByteArray := x.extract (x.size - 3) x.size
/-- A number added to what stands beside a word. -/
def upd : List (ByteArray × Nat) → ByteArray → Nat → List (ByteArray × Nat)
  | [], w, c => [(w, c)]
  | (v, d) :: r, w, c => if w = v then (v, d + c) :: r else (v, d) :: upd r w c
def nms (P : List (ByteArray × Nat)) : List ByteArray := P.map (·.1)
def cns (P : List (ByteArray × Nat)) : List Nat := P.map (·.2)
theorem nms_len (P : List (ByteArray × Nat)) : (nms P).length = P.length := by simp [nms]
theorem cns_len (P : List (ByteArray × Nat)) : (cns P).length = P.length := by simp [cns]
theorem upd_new : ∀ (P : List (ByteArray × Nat)) (w : ByteArray) (c : Nat), w ∉ nms P → upd P w c = P ++ [(w, c)]
  | [], w, c, _ => rfl
  | (v, d) :: r, w, c, h => by
    have h1 : w ≠ v := fun e => h (by rw [e]; exact List.mem_cons_self)
    have h2 : w ∉ nms r := fun e => h (List.mem_cons_of_mem _ e)
    rw [upd, if_neg h1, upd_new r w c h2]; rfl
theorem upd_old : ∀ (P : List (ByteArray × Nat)) (w : ByteArray) (c : Nat) (i : Int), 0 ≤ i → 0 ≤ ixGo w (nms P) i → ∃ (k : Nat) (d : Nat), ixGo w (nms P) i = i + (k : Int) ∧ k < P.length ∧ (cns P)[k]? = some d ∧ nms (upd P w c) = nms P ∧ cns (upd P w c) = (cns P).set k (d + c)
  | [], w, c, i, _, h => by simp [nms, ixGo] at h
  | (v, d) :: r, w, c, i, hi, h => by
    rw [nms, List.map_cons, ← nms, ixGo] at h
    by_cases hw : w = v
    · refine ⟨0, d, ?_, by simp, rfl, ?_, ?_⟩
      · rw [nms, List.map_cons, ixGo, if_pos hw]; simp
      · rw [upd, if_pos hw]; rfl
      · rw [upd, if_pos hw]; rfl
    · rw [if_neg hw] at h
      obtain ⟨k, d', h1, h2, h3, h4, h5⟩ := upd_old r w c (i + 1) (by omega) h
      refine ⟨k + 1, d', ?_, by simpa using h2, h3, ?_, ?_⟩
      · rw [nms, List.map_cons, ← nms, ixGo, if_neg hw, h1]; omega
      · rw [upd, if_neg hw]; simp only [nms, List.map_cons] at h4 ⊢; rw [h4]
      · rw [upd, if_neg hw]; simp only [cns, List.map_cons, List.set_cons_succ] at h5 ⊢; rw [h5]
/-- The words with each letter more that avoid the ban, of the first k letters. -/
def stK (ban : List ByteArray) (e : ByteArray) (c : Nat) : Nat → List (ByteArray × Nat) → List (ByteArray × Nat)
  | 0, Q => Q
  | k + 1, Q => if avoidsB (e ++ strOf [ltr k]) ban then upd (stK ban e c k Q) (tl3 (e ++ strOf [ltr k])) c else stK ban e c k Q
def stE (ban : List ByteArray) (m : Nat) (P Q : List (ByteArray × Nat)) : List (ByteArray × Nat) := P.foldl (fun Q x => stK ban x.1 x.2 m Q) Q
def stp (ban : List ByteArray) (m : Nat) (P : List (ByteArray × Nat)) : List (ByteArray × Nat) := stE ban m P []
theorem stE_take {ban : List ByteArray} {m k : Nat} {P Q : List (ByteArray × Nat)} {x : ByteArray × Nat} (h : P[k]? = some x) : stE ban m (P.take (k + 1)) Q = stK ban x.1 x.2 m (stE ban m (P.take k) Q) := by
  rw [stE, List.take_add_one, h, List.foldl_append]; rfl
/-- A sum over words, each as often as its number says. -/
def val (f : ByteArray → Nat) (P : List (ByteArray × Nat)) : Nat := (P.map fun x => x.2 * f x.1).sum
theorem val_upd (f : ByteArray → Nat) : ∀ (P : List (ByteArray × Nat)) (w : ByteArray) (c : Nat), val f (upd P w c) = val f P + c * f w
  | [], w, c => by simp [upd, val]
  | (v, d) :: r, w, c => by
    unfold upd
    by_cases hw : w = v
    · subst hw; rw [if_pos rfl]; simp [val, Nat.add_mul]; omega
    · rw [if_neg hw]
      have := val_upd f r w c
      simp only [val, List.map_cons, List.sum_cons] at this ⊢; omega
/-- In how many ways n letters can stand behind a word that avoids the ban. -/
def sumTo (f : Nat → Nat) : Nat → Nat
  | 0 => 0
  | k + 1 => sumTo f k + f k
def cnt (ban : List ByteArray) (m : Nat) : Nat → ByteArray → Nat
  | 0, _ => 1
  | n + 1, e => sumTo (fun k => if avoidsB (e ++ strOf [ltr k]) ban then cnt ban m n (tl3 (e ++ strOf [ltr k])) else 0) m
theorem val_stK (f : ByteArray → Nat) (ban : List ByteArray) (e : ByteArray) (c : Nat) : ∀ (k : Nat) (Q : List (ByteArray × Nat)), val f (stK ban e c k Q) = val f Q + c * sumTo (fun k => if avoidsB (e ++ strOf [ltr k]) ban then f (tl3 (e ++ strOf [ltr k])) else 0) k
  | 0, Q => by simp [stK, sumTo]
  | k + 1, Q => by
    have ih := val_stK f ban e c k Q
    unfold stK sumTo
    cases h : avoidsB (e ++ strOf [ltr k]) ban
    · simp only [Bool.false_eq_true, if_false]; rw [ih]; rfl
    · simp only [if_true]; rw [val_upd, ih, Nat.mul_add]; omega
theorem val_stE (ban : List ByteArray) (m n : Nat) : ∀ (P Q : List (ByteArray × Nat)), val (cnt ban m n) (stE ban m P Q) = val (cnt ban m n) Q + val (cnt ban m (n + 1)) P
  | [], Q => by simp [stE, val]
  | x :: P, Q => by
    have ih := val_stE ban m n P (stK ban x.1 x.2 m Q)
    rw [stE, List.foldl_cons, ← stE, ih, val_stK]
    simp only [val, List.map_cons, List.sum_cons, cnt]; omega
theorem val_stp (ban : List ByteArray) (m n : Nat) (P : List (ByteArray × Nat)) : val (cnt ban m n) (stp ban m P) = val (cnt ban m (n + 1)) P := by
  rw [stp, val_stE]; simp [val]
/-- Each word once, of at most three letters of the four. -/
def wk3 (x : ByteArray) : Prop := x.size ≤ 3 ∧ ∀ c ∈ L x, 97 ≤ c.toNat ∧ c.toNat ≤ 100
def WK (P : List (ByteArray × Nat)) : Prop := (nms P).Nodup ∧ ∀ x ∈ nms P, wk3 x
theorem ltr_ok {k : Nat} (h : k < 4) : 97 ≤ (ltr k).toNat ∧ (ltr k).toNat ≤ 100 := by
  match k, h with
  | 0, _ => decide
  | 1, _ => decide
  | 2, _ => decide
  | 3, _ => decide
theorem tl3_ok {e : ByteArray} {k : Nat} (he : wk3 e) (hk : k < 4) : wk3 (tl3 (e ++ strOf [ltr k])) := by
  refine ⟨by unfold tl3; rw [ByteArray.size_extract]; omega, fun c hc => ?_⟩
  rw [tl3, L_extract] at hc
  have h2 : c ∈ L (e ++ strOf [ltr k]) := List.mem_of_mem_take (List.mem_of_mem_drop hc)
  simp only [L, ByteArray.data_append, Array.toList_append, List.mem_append] at h2
  rcases h2 with h2 | h2
  · exact he.2 c h2
  · have : c = ltr k := by simpa [strOf] using h2
    rw [this]; exact ltr_ok hk
theorem upd_nms (P : List (ByteArray × Nat)) (w : ByteArray) (c : Nat) : nms (upd P w c) = if hasS (nms P) w = true then nms P else nms P ++ [w] := by
  by_cases h : w ∈ nms P
  · rw [if_pos ((hasS_mem _ _).2 h)]
    obtain ⟨k, d, _, _, _, h4, _⟩ := upd_old P w c 0 (Int.le_refl _) ((ixGo_mem w (nms P) 0 (Int.le_refl _)).2 h)
    exact h4
  · rw [if_neg (fun e => h ((hasS_mem _ _).1 e)), upd_new P w c h]; simp [nms]
theorem WK.upd {P : List (ByteArray × Nat)} (h : WK P) {w : ByteArray} (hw : wk3 w) (c : Nat) : WK (upd P w c) := by
  unfold WK
  rw [upd_nms]
  by_cases hm : w ∈ nms P
  · rw [if_pos ((hasS_mem _ _).2 hm)]; exact h
  · rw [if_neg (fun e => hm ((hasS_mem _ _).1 e))]
    refine ⟨List.nodup_append.2 ⟨h.1, by simp, fun a ha b hb => by rw [List.mem_singleton.1 hb]; exact fun e => hm (by rw [← e]; exact ha)⟩, fun x hx => ?_⟩
    rcases List.mem_append.1 hx with hx | hx
    · exact h.2 x hx
    · rw [List.mem_singleton.1 hx]; exact hw
theorem WK.stK {ban : List ByteArray} {e : ByteArray} {c : Nat} (he : wk3 e) : ∀ {k : Nat} {Q : List (ByteArray × Nat)}, k ≤ 4 → WK Q → WK (stK ban e c k Q)
  | 0, Q, _, h => h
  | k + 1, Q, hk, h => by
    have ih := WK.stK (ban := ban) (c := c) he (k := k) (by omega) h
    unfold Go.Proofs.YtaihigaafjmpiaaDoor.stK
    split
    · exact ih.upd (tl3_ok he (by omega)) c
    · exact ih
theorem WK.stE {ban : List ByteArray} {m : Nat} (hm : m ≤ 4) : ∀ {P Q : List (ByteArray × Nat)}, (∀ x ∈ nms P, wk3 x) → WK Q → WK (stE ban m P Q)
  | [], Q, _, h => h
  | x :: P, Q, hp, h => WK.stE hm (P := P) (fun y hy => hp y (List.mem_cons_of_mem _ hy)) (WK.stK (hp x.1 List.mem_cons_self) hm h)
theorem WK.nil : WK [] := ⟨List.nodup_nil, fun x h => by simp [nms] at h⟩
theorem pigeon : ∀ (n : Nat) (l : List Nat), l.Nodup → (∀ x ∈ l, x < n) → l.length ≤ n
  | 0, l, _, h => by
    cases l with
    | nil => simp
    | cons a l => exact absurd (h a List.mem_cons_self) (by omega)
  | n + 1, l, hd, h => by
    have h1 := pigeon n (l.erase n) (hd.erase n) fun x hx => by
      have h2 := (List.Nodup.mem_erase_iff hd).1 hx
      have h3 := h x h2.2
      have := h2.1
      omega
    have h2 := List.length_erase_le (a := n) (l := l)
    by_cases hm : n ∈ l
    · rw [List.length_erase_of_mem hm] at h1; omega
    · rw [List.erase_of_not_mem hm] at h1; omega
theorem sub_len {α : Type} [DecidableEq α] : ∀ (l M : List α), l.Nodup → (∀ x ∈ l, x ∈ M) → l.length ≤ M.length
  | [], M, _, _ => by simp
  | a :: l, M, hd, h => by
    have h1 := List.nodup_cons.1 hd
    have h2 := sub_len l (M.erase a) h1.2 fun x hx => (List.mem_erase_of_ne (fun e => h1.1 (by rw [← e]; exact hx))).2 (h x (List.mem_cons_of_mem _ hx))
    have h3 := h a List.mem_cons_self
    rw [List.length_erase_of_mem h3] at h2
    have h4 := List.length_pos_of_mem h3
    rw [List.length_cons]; omega
def kk (l : List UInt8) : Nat := l.foldl (fun a c => a * 5 + (c.toNat - 96)) 0
theorem kk_lt {l : List UInt8} (h : l.length ≤ 3) (hc : ∀ c ∈ l, 97 ≤ c.toNat ∧ c.toNat ≤ 100) : kk l < 125 := by
  rcases l with _ | ⟨a, _ | ⟨b, _ | ⟨c, _ | ⟨d, l⟩⟩⟩⟩
  · decide
  · have := hc a (by simp); simp [kk]; omega
  · have := hc a (by simp); have := hc b (by simp); simp [kk]; omega
  · have := hc a (by simp); have := hc b (by simp); have := hc c (by simp); simp [kk]; omega
  · simp at h
theorem kk_inj {l m : List UInt8} (h1 : l.length ≤ 3) (hc : ∀ c ∈ l, 97 ≤ c.toNat ∧ c.toNat ≤ 100) (h2 : m.length ≤ 3) (hd : ∀ c ∈ m, 97 ≤ c.toNat ∧ c.toNat ≤ 100) (h : kk l = kk m) : l = m := by
  rcases l with _ | ⟨a, _ | ⟨b, _ | ⟨c, _ | ⟨d, l⟩⟩⟩⟩ <;> rcases m with _ | ⟨a', _ | ⟨b', _ | ⟨c', _ | ⟨d', m⟩⟩⟩⟩ <;>
    first
    | rfl
    | (simp only [List.length_cons] at h1; omega)
    | (simp only [List.length_cons] at h2; omega)
    | (simp only [List.forall_mem_cons, kk, List.foldl_cons, List.foldl_nil] at hc hd h
       first
       | (exfalso; omega)
       | (have e1 : a = a' := UInt8.toNat_inj.1 (by omega)
          first
          | (rw [e1]; done)
          | (have e2 : b = b' := UInt8.toNat_inj.1 (by omega)
             first
             | (rw [e1, e2]; done)
             | (have e3 : c = c' := UInt8.toNat_inj.1 (by omega)
                rw [e1, e2, e3]; done))))
theorem nodup_inj {α β : Type} (f : α → β) : ∀ {l : List α}, l.Nodup → (∀ x ∈ l, ∀ y ∈ l, f x = f y → x = y) → (l.map f).Nodup
  | [], _, _ => List.nodup_nil
  | a :: l, hd, h => by
    have h1 := List.nodup_cons.1 hd
    rw [List.map_cons, List.nodup_cons]
    refine ⟨fun hm => ?_, nodup_inj f h1.2 fun x hx y hy => h x (List.mem_cons_of_mem _ hx) y (List.mem_cons_of_mem _ hy)⟩
    obtain ⟨y, hy, he⟩ := List.mem_map.1 hm
    have := h y (List.mem_cons_of_mem _ hy) a List.mem_cons_self he
    exact h1.1 (by rw [← this]; exact hy)
theorem WK.len {P : List (ByteArray × Nat)} (h : WK P) : P.length ≤ 125 := by
  have h1 : ((nms P).map fun x => kk (L x)).Nodup := nodup_inj _ h.1 fun x hx y hy he => bytes_ext (kk_inj (by have := (h.2 x hx).1; rw [L_len]; exact this) (h.2 x hx).2 (by have := (h.2 y hy).1; rw [L_len]; exact this) (h.2 y hy).2 he)
  have h2 := pigeon 125 _ h1 fun k hk => by
    obtain ⟨x, hx, rfl⟩ := List.mem_map.1 hk
    exact kk_lt (by have := (h.2 x hx).1; rw [L_len]; exact this) (h.2 x hx).2
  rwa [List.length_map, nms_len] at h2
end Go.Proofs.YtaihigaafjmpiaaDoor
