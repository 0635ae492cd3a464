/- Words that avoid a ban by their tails: the plain part of IsUnavoidable; what a map's keys are. No condition. -/
import Derived.Test.YtaihigaafjmpiaaDoorStp
import Derived.Maps.Own
import Derived.Maps.OwnOps
import Derived.Maps.OwnSet
import Derived.Maps.RangeWalk
import Derived.Sort.EncStr
namespace Go.Proofs.YtaihigaafjmpiaaDoor
open Go.RowKit Go.Maps
set_option linter.unusedVariables false

/-- x stands behind e with one letter more. -/
def Nx (ban : List ByteArray) (m : Nat) (e x : ByteArray) : Prop := ∃ j, j < m ∧ avoidsB (e ++ strOf [ltr j]) ban = true ∧ x = tl3 (e ++ strOf [ltr j])
theorem mem_upd (P : List (ByteArray × Nat)) (w : ByteArray) (c : Nat) (x : ByteArray) : x ∈ nms (upd P w c) ↔ x ∈ nms P ∨ x = w := by
  rw [upd_nms]
  by_cases h : w ∈ nms P
  · rw [if_pos ((hasS_mem _ _).2 h)]
    exact ⟨.inl, fun h2 => h2.elim id fun e => by rw [e]; exact h⟩
  · rw [if_neg (fun e => h ((hasS_mem _ _).1 e)), List.mem_append, List.mem_singleton]
theorem mem_stK (ban : List ByteArray) (e : ByteArray) (c : Nat) (x : ByteArray) : ∀ (k : Nat) (Q : List (ByteArray × Nat)), x ∈ nms (stK ban e c k Q) ↔ x ∈ nms Q ∨ Nx ban k e x
  | 0, Q => by
    rw [stK]
    exact ⟨.inl, fun h => h.elim id fun ⟨j, hj, _⟩ => by omega⟩
  | k + 1, Q => by
    have ih := mem_stK ban e c x k Q
    unfold stK
    split
    · rename_i ha
      rw [mem_upd, ih]
      constructor
      · rintro ((h | ⟨j, hj, h⟩) | h)
        · exact .inl h
        · exact .inr ⟨j, by omega, h⟩
        · exact .inr ⟨k, by omega, ha, h⟩
      · rintro (h | ⟨j, hj, h1, h2⟩)
        · exact .inl (.inl h)
        · by_cases e2 : j = k
          · subst e2; exact .inr h2
          · exact .inl (.inr ⟨j, by omega, h1, h2⟩)
    · rename_i ha
      rw [ih]
      constructor
      · rintro (h | ⟨j, hj, h⟩)
        · exact .inl h
        · exact .inr ⟨j, by omega, h⟩
      · rintro (h | ⟨j, hj, h1, h2⟩)
        · exact .inl h
        · by_cases e2 : j = k
          · subst e2; exact absurd h1 ha
          · exact .inr ⟨j, by omega, h1, h2⟩
theorem mem_stE (ban : List ByteArray) (m : Nat) (x : ByteArray) : ∀ (P Q : List (ByteArray × Nat)), x ∈ nms (stE ban m P Q) ↔ x ∈ nms Q ∨ ∃ e ∈ nms P, Nx ban m e x
  | [], Q => by simp [stE, nms]
  | y :: P, Q => by
    have ih := mem_stE ban m x P (stK ban y.1 y.2 m Q)
    rw [stE, List.foldl_cons, ← stE, ih, mem_stK]
    simp only [nms, List.map_cons, List.mem_cons, exists_eq_or_imp, or_assoc]
/-- The words one letter further on. -/
def nst (ban : List ByteArray) (m : Nat) (es : List ByteArray) : List ByteArray := nms (stp ban m (es.map fun e => (e, 0)))
theorem nms_zero (es : List ByteArray) : nms (es.map fun e => (e, 0)) = es := by
  simp [nms, List.map_map, Function.comp_def]
theorem cns_zero (es : List ByteArray) : cns (es.map fun e => (e, 0)) = List.replicate es.length 0 := by
  rw [cns, List.map_map]
  exact List.map_const' ..
theorem mem_nst (ban : List ByteArray) (m : Nat) (es : List ByteArray) (x : ByteArray) : x ∈ nst ban m es ↔ ∃ e ∈ es, Nx ban m e x := by
  rw [nst, stp, mem_stE, nms_zero]
  simp [nms]
/-- The words i letters on. -/
def ess (ban : List ByteArray) (m : Nat) : Nat → List ByteArray
  | 0 => [ByteArray.empty]
  | i + 1 => nst ban m (ess ban m i)
theorem wk_stp {ban : List ByteArray} {m : Nat} (hm : m ≤ 4) {P : List (ByteArray × Nat)} (h : ∀ x ∈ nms P, wk3 x) : WK (stp ban m P) := WK.stE hm h WK.nil
theorem ess_ok (ban : List ByteArray) {m : Nat} (hm : m ≤ 4) : ∀ (i : Nat), (∀ x ∈ ess ban m i, wk3 x) ∧ (ess ban m i).length ≤ 125
  | 0 => ⟨fun x hx => by
      have : x = ByteArray.empty := by simpa [ess] using hx
      subst this
      exact ⟨by decide, fun c hc => by simp [L] at hc⟩, by simp [ess]⟩
  | i + 1 => by
    have h := wk_stp (ban := ban) hm (P := (ess ban m i).map fun e => (e, 0)) (by rw [nms_zero]; exact (ess_ok ban hm i).1)
    exact ⟨h.2, by rw [ess, nst, nms_len]; exact h.len⟩
def unV (m : Int) (ban : List ByteArray) : Bool := decide (1 ≤ m ∧ m ≤ 4) && banOk ban && (ess ban m.toNat 68).isEmpty

section
variable {P : Program} {k : TypeId} {R : Value → Option (DataW Unit × List MemPlace)} {w : World} {b n : Nat} {D : DataW Unit}
abbrev ky (x : ByteArray) : Lit := .string (L x)
theorem ky_inj {x y : ByteArray} (h : ky x = ky y) : x = y := bytes_ext (by simpa [ky] using h)
/-- The map's keys are those of which S holds. -/
def KeyIs (D : DataW Unit) (S : ByteArray → Prop) : Prop := ∀ x, Maps.has D (ky x) = true ↔ S x
theorem own_tight (h : w.ownsMap P k R b n D) : w.ownsMap P k R b (Maps.size D) D := by
  obtain ⟨es, clock, hb, F, hs, rfl⟩ := h
  exact ⟨es, clock, hb, F, by rw [Maps.size_eq, length_read]; exact Nat.le_refl _, rfl⟩
theorem own_keys (h : w.ownsMap P k R b n D) (K : Keyed P k) (hk : P.underlying k = some .string) : ∃ xs : List ByteArray, xs.Nodup ∧ xs.length = Maps.size D ∧ ∀ x ∈ xs, Maps.has D (ky x) = true := by
  obtain ⟨es, clock, hb, F, hs, rfl⟩ := h
  have hkeys := fit_keys F
  have hap := fit_apart K F
  have hper := WideShapes.sorted_perm (es.toList.map (WideElems.rg P k R))
  obtain ⟨l, hl⟩ : ∃ l, es.toList.map (WideElems.rg P k R) = l := ⟨_, rfl⟩
  rw [hl] at hkeys hap hper ⊢
  have hstr : ∀ p ∈ l, ∃ s : List UInt8, p.1 = .string s := fun p hp => by
    obtain ⟨v, hv⟩ := hkeys p hp
    obtain ⟨x, _, hx, _⟩ := Maps.keyOf_str hk hv
    exact ⟨x, hx⟩
  refine ⟨l.map fun p => match p.1 with | .string s => strOf s | _ => ByteArray.empty, ?_, ?_, ?_⟩
  · rw [List.nodup_iff_pairwise_ne, List.pairwise_map]
    refine List.Pairwise.imp_of_mem ?_ hap
    intro p q hp hq hne he
    obtain ⟨s, hs⟩ := hstr p hp
    obtain ⟨t, ht⟩ := hstr q hq
    rw [hs, ht] at he
    apply hne
    rw [hs, ht]
    have := congrArg L he
    simp only [strOf_L] at this
    rw [this]
  · rw [List.length_map, Maps.size_eq, hper.length_eq]
  · intro x hx
    obtain ⟨p, hp, rfl⟩ := List.mem_map.1 hx
    obtain ⟨s, hs⟩ := hstr p hp
    rw [Maps.has_eq, List.any_eq_true]
    refine ⟨p, hper.mem_iff.2 hp, ?_⟩
    rw [hs]
    simp only [ky, strOf_L]
    simp [Lit.sameKey]
theorem own_size (h : w.ownsMap P k R b n D) (K : Keyed P k) (hk : P.underlying k = some .string) {S : ByteArray → Prop} (hS : KeyIs D S) {es : List ByteArray} (he : ∀ x, S x → x ∈ es) : Maps.size D ≤ es.length := by
  obtain ⟨xs, h1, h2, h3⟩ := own_keys h K hk
  rw [← h2]
  exact sub_len xs es h1 fun x hx => he x ((hS x).1 (h3 x hx))
theorem own_size3 (h : w.ownsMap P k R b n D) (K : Keyed P k) (hk : P.underlying k = some .string) {S : ByteArray → Prop} (hS : KeyIs D S) (he : ∀ x, S x → wk3 x) : Maps.size D ≤ 125 := by
  obtain ⟨xs, h1, h2, h3⟩ := own_keys h K hk
  rw [← h2]
  have h4 : ((xs.map fun x => (x, 0)).map (·.1)) = xs := by simp [List.map_map, Function.comp_def]
  have h5 : WK (xs.map fun x => (x, 0)) := ⟨by rw [nms, h4]; exact h1, by rw [nms, h4]; exact fun x hx => he x ((hS x).1 (h3 x hx))⟩
  have := h5.len
  rwa [List.length_map] at this
theorem own_empty (h : w.ownsMap P k R b n D) (K : Keyed P k) (hk : P.underlying k = some .string) {es : List ByteArray} (hS : KeyIs D (· ∈ es)) : (Maps.size D = 0) ↔ es.isEmpty = true := by
  constructor
  · intro h0
    cases es with
    | nil => rfl
    | cons x es =>
      have h1 := (hS x).2 List.mem_cons_self
      obtain ⟨es', clock, hb, F, hs, rfl⟩ := h
      rw [Maps.size_eq] at h0
      rw [Maps.has_eq, List.eq_nil_of_length_eq_zero h0] at h1
      cases h1
  · intro h0
    have := own_size h K hk hS (es := es) fun x hx => hx
    rw [List.isEmpty_iff.1 h0] at this
    simpa using this
theorem ky_key (x : ByteArray) : WideAt.IsKeyLit (ky x) := trivial
theorem ky_same (x y : ByteArray) : (ky x).sameKey (ky y) = decide (x = y) := by
  by_cases h : x = y
  · subst h; simp [Lit.sameKey]
  · rw [Maps.sameKey_ne (fun e => h (ky_inj e)), decide_eq_false h]
theorem key_none : KeyIs (.map []) (fun _ => False) := fun x => by simp [Maps.has]
theorem key_put {S S2 : ByteArray → Prop} (hm : Maps.IsMap D) (h : KeyIs D S) (y : ByteArray) (d : DataW Unit) (h2 : ∀ x, S2 x ↔ S x ∨ x = y) : KeyIs (D.put (ky y) d) S2 := fun x => by
  rw [h2]
  by_cases he : x = y
  · subst he
    rw [Maps.has_put_same hm (ky_key x)]
    exact ⟨fun _ => .inr rfl, fun _ => rfl⟩
  · rw [Maps.has_put_other (fun e => he (ky_inj e)), h x]
    exact ⟨.inl, fun h3 => h3.elim id fun e => absurd e he⟩
end
/-- The elements of a set: all are true. -/
def tE (v : Value) : Option (DataW Unit × List MemPlace) := match v with
  | .bool true => some (.lit (.bool true), [])
  | _ => none
theorem tE_mk : tE (.bool true) = some (.lit (.bool true), []) := rfl
theorem tE_inv {v : Value} {z : DataW Unit × List MemPlace} (h : tE v = some z) : v = .bool true := by
  unfold tE at h
  split at h
  · rfl
  · cases h
/-- An entry of a map's literal. -/
theorem wpList_insert_own {P : Program} (w : World) {ops : Array Oper} {rest : List Oper} {o : Oper} {a : Act} {Q : Exit → Act → World → Prop}
    (hg : o.guard = none) (m x v : Operand) (t : TypeId) (hop : o.op = Op.insert t m x v)
    (k e : TypeId) (K : Keyed P k) (ht : P.underlying t = some (.map k e)) (R : Value → Option (DataW Unit × List MemPlace)) (b n : Nat) (D : DataW Unit)
    (hm : a.eval m = .map (some b)) (hown : w.ownsMap P k R b n D) (hn : n < maxLen) (key val : Value) (kl : Lit) (hx : a.eval x = key) (hv : a.eval v = val) (hkey : keyOf P k key = some kl)
    (d : DataW Unit) (ps : List MemPlace) (hval : R val = some (d, ps))
    (hK : ∀ w', w'.ownsMap P k R b (n + 1) (D.put kl d) → w.grownBy w' (some b) → wpList P ops Q rest (a.put o.dst undef) w') :
    wpList P ops Q (o :: rest) a w := by
  refine wpList_plain hg fun K' hK' => ?_
  obtain ⟨w', hrun, r1, r2⟩ := hown.update K ht hn hkey hval
  unfold Oper.wp
  simp [execOp, hop, hm, hx, hv, hrun, Result.andThen]
  exact hK' _ _ (hK w' r1 r2)
theorem ess_zero (ban : List ByteArray) (m : Nat) : ess ban m 0 = [ByteArray.empty] := rfl
theorem ess_succ (ban : List ByteArray) (m i : Nat) : ess ban m (i + 1) = nst ban m (ess ban m i) := rfl
theorem ess_next (ban : List ByteArray) (m i : Nat) : nms (stp ban m ((ess ban m i).map fun e => (e, 0))) = ess ban m (i + 1) := rfl
attribute [irreducible] ess
end Go.Proofs.YtaihigaafjmpiaaDoor
