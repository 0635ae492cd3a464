/- Repairs, the reference: the table of costs. No condition but the bounds. -/
import Derived.Test.YtfjmopiofcbpgaaRepI
namespace Go.Proofs.Ytfjmopiofcbpgaa
open Go.RowKit
set_option linter.unusedVariables false

/-- A slice that lies behind block g and reads as xs. -/
def Far (w : World) (g : Nat) (A : Option Addr) (xs : List Value) : Prop := ∀ k u, xs[k]? = some u → ∃ b, A = some ⟨b, 0, none⟩ ∧ g < b ∧ b < w.heap.size ∧ w.cell? ⟨b, k, none⟩ = some u
section
variable {w w' : World} {g : Nat} {A : Option Addr} {xs : List Value}
theorem Far.keep (h : Far w g A xs) (hs : w.heap.size ≤ w'.heap.size) (hk : ∀ p : Addr, g < p.block → p.block < w.heap.size → w'.cell? p = w.cell? p) : Far w' g A xs := fun k u hu => by
  obtain ⟨b, e, h1, h2, h3⟩ := h k u hu
  exact ⟨b, e, h1, by omega, (hk _ h1 h2).trans h3⟩
theorem Far.below (h : Far w g A xs) (hb : Below w.heap.size w w') : Far w' g A xs := h.keep hb.size fun p _ hp => hb.cell hp
theorem Far.store (h : Far w g A xs) (hg : w.grownBy w' (some g)) : Far w' g A xs := h.keep hg.size fun p h1 h2 => by
  unfold World.cell?
  rw [hg.block p.block h2 (by simp; omega)]
end
theorem Own.far {w : World} {B g c : Nat} {A : Option Addr} {E : TypeId} {n : Nat} {xs : List Value} (h : Own w B E (.slice A n c) xs) (hg : g < B) : Far w g A xs := fun k u hu => by
  obtain ⟨hk, hu'⟩ := List.getElem?_eq_some_iff.1 hu
  obtain ⟨A', c', hv, _⟩ := h.shape
  injection hv with h1 h2 h3
  subst h2
  obtain ⟨b, rfl, hB, hs, hc, _, _⟩ := h.store hk
  exact ⟨b, rfl, by omega, hs, hc.trans hu⟩
/-- Rows m and following lie in the table xs. -/
def Tab (w : World) (g : Nat) (C : Nat → List Int) (n m : Nat) (xs : List Value) : Prop := ∀ j, m ≤ j → j < n → ∃ A c, xs[j]? = some (.slice A 4 c) ∧ Far w g A ((C j).map (Value.int .i64))
theorem Tab.below {w w' : World} {g : Nat} {C : Nat → List Int} {n m : Nat} {xs : List Value} (h : Tab w g C n m xs) (hb : Below w.heap.size w w') : Tab w' g C n m xs := fun j h1 h2 => by
  obtain ⟨A, c, e, hf⟩ := h j h1 h2
  exact ⟨A, c, e, hf.below hb⟩
theorem Tab.store {w w' : World} {g : Nat} {C : Nat → List Int} {n m c : Nat} {A : Option Addr} {xs : List Value} (h : Tab w g C n (m + 1) xs) (hm : m < xs.length) (hf : Far w g A ((C m).map (Value.int .i64))) (hg : w.grownBy w' (some g)) :
    Tab w' g C n m (xs.set m (.slice A 4 c)) := fun j h1 h2 => by
  by_cases he : j = m
  · subst he
    exact ⟨A, c, by rw [List.getElem?_set_self hm], hf.store hg⟩
  · obtain ⟨A', c', e, hf'⟩ := h j (by omega) h2
    exact ⟨A', c', by rw [List.getElem?_set_ne (by omega)]; exact e, hf'.store hg⟩
theorem take_snoc {l : List Int} {k : Nat} {x : Int} (h : l[k]? = some x) : ((l.take k).map (Value.int .i64)) ++ [Value.int .i64 x] = (l.take (k + 1)).map (Value.int .i64) := by
  rw [List.take_add_one, h]; simp

theorem u8_bd (x : Int) : 0 ≤ IntKind.u8.wrap x ∧ IntKind.u8.wrap x ≤ 255 := by
  have h : IntKind.u8.wrap x = x % 256 := by simp [IntKind.wrap, IntKind.bits, IntKind.signed]
  omega
theorem u8_letter (b : UInt8) (k : Nat) (hk : k < 4) : IntKind.u8.wrap ((b.toNat : Int) - 97) = (k : Int) ↔ b = lt k := by
  have h : IntKind.u8.wrap ((b.toNat : Int) - 97) = ((b.toNat : Int) - 97) % 256 := by simp [IntKind.wrap, IntKind.bits, IntKind.signed]
  have hb := b.toNat_lt
  have hl : (lt k).toNat = 97 + k := by unfold lt; rw [UInt8.toNat_ofNat']; omega
  rw [h, ← UInt8.toNat_inj, hl]
  omega
theorem Own.lit {w : World} {B n : Nat} {E : TypeId} (cs : Array Value) (hB : B ≤ w.heap.size) (hc : cs.size = n) (hn : n ≤ maxLen) : Own (w.alloc (.cells cs E)) B E (.slice (some ⟨w.heap.size, 0, none⟩) n n) cs.toList := by
  have h := World.ownsRow_lit (base := B) (e := E) (size := 1) w cs n hB hn (by omega)
  unfold Own
  rw [Array.length_toList, hc]; exact h
end Go.Proofs.Ytfjmopiofcbpgaa
