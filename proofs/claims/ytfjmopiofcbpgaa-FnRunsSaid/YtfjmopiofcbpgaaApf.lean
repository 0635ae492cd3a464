/- One append to a row that may be full and marked (what []byte of a constant lays): its own row from then on. No condition. -/
import Derived.Test.YtfjmopiofcbpgaaByt
import Derived.Test.YtfjmopiofcbpgaaMem
import Derived.Laws.Append
import Derived.Lib.SlBytesConst
namespace Go.Proofs.Ytfjmopiofcbpgaa
open Go.RowKit
set_option linter.unusedVariables false

/-- A slice of one's own, or one whose row is full. -/
def OwnF (w : World) (B : Nat) (E : TypeId) (v : Value) (xs : List Value) : Prop :=
  Own w B E v xs ∨ ∃ g, v = .slice (some ⟨g, 0, none⟩) xs.length xs.length ∧ Rds w w.heap.size (some ⟨g, 0, none⟩) xs
theorem OwnF.reads {w : World} {B n c : Nat} {E : TypeId} {A : Option Addr} {xs : List Value} (h : OwnF w B E (.slice A n c) xs) : Rds w w.heap.size A xs := by
  rcases h with h | ⟨g, hv, h⟩
  · exact h.reads
  · injection hv with e1 e2 e3
    rw [e1]; exact h
theorem OwnF.cap {w : World} {B n c : Nat} {E : TypeId} {A : Option Addr} {xs : List Value} (h : OwnF w B E (.slice A n c) xs) : xs.length ≤ c := by
  rcases h with h | ⟨g, hv, h⟩
  · obtain ⟨_, _, e, h, _⟩ := h.shape
    injection e with e1 e2 e3
    omega
  · injection hv with e1 e2 e3
    omega
theorem wp_append1F {P : Program} {w : World} {B : Nat} {E : TypeId} {v : Value} {xs : List Value} {ops : Array Oper} {rest : List Oper} {o : Oper} {a : Act} {Q : Exit → Act → World → Prop} (hgd : o.guard = none) (s x : Operand) (t : TypeId)
    (ho : o.op = .call { callee := .builtin .append, args := #[s, x], argTypes := #[t, t] })
    (z : Value) (bytes : Nat) (ht : P.underlying t = some (.slice E)) (hinfo : (P.info? E).map (fun i => (i.zero, i.size, i.bytes)) = some (some z, 1, bytes)) (hzs : z.cells.size = 1)
    (hs : a.eval s = v) (hown : OwnF w B E v xs) (u : Value) (hu : u.oneCell' = true)
    (hx : a.eval x = .slice (some ⟨w.heap.size, 0, none⟩) 1 1) (n : Nat)
    (hl : xs.length = n) (hn : n < 4294967296) (hb16 : bytes ≤ 1024) (hB : B ≤ w.heap.size)
    (h : ∀ A c w', Own w' B E (.slice A (n + 1) c) (xs ++ [u]) → Below B w w' → w.heap.size ≤ w'.heap.size → wpList P ops Q rest (a.put o.dst (.slice A (n + 1) c)) w') :
    wpList P ops Q (o :: rest) a (w.alloc (.cells #[u] E)) := by
  rcases hown with hown | ⟨g, hv, hr⟩
  · exact wp_append1 hgd s x t ho z bytes ht hinfo hzs hs hown u hu hx n hl hn hb16 hB h
  · obtain ⟨i, hi, hz, hsize, hby⟩ := info_parts hinfo
    subst hl
    have hb2 : Builtin.nextslicecap (xs.length + 1) xs.length * i.bytes ≤ 281474976710656 := growslice_fits (by omega) (by
      rw [hby]
      calc (xs.length + 1) * bytes ≤ 4294967296 * 1024 := Nat.mul_le_mul (by omega) hb16
        _ ≤ 140737488355328 := by decide)
    have hr2 := hr.below ((Below.refl w.heap.size w).alloc (Nat.le_refl _) (.cells #[u] E)) (Nat.le_refl _)
    have hrun := run_append_grow (P := P) (w.alloc (.cells #[u] E)) t o.type E i z ht hi hz ⟨g, 0, none⟩ xs.length xs.length xs (by rw [hsize, Nat.mul_one]) (fun j y hj => by
        obtain ⟨ad, e, hc⟩ := hr2.at_ hj
        injection e with e
        rw [e]; exact hc) ⟨w.heap.size, 0, none⟩ 1 1 [u] (by rw [hsize]; rfl) (fun j q hj => by match j, hj with | 0, hj => simp at hj; subst hj; simp [Addr.add]) (by omega) (by omega) hb2
    refine wpList_plain hgd fun K hK => ?_
    unfold Oper.wp execOp
    simp only [ho, resolve, invoke, builtin, Sem.run_bind, Sem.run_pure, Result.andThen_ok, List.map_toArray, List.map_cons, List.map_nil, hs, hv, hx, hrun]
    have hge := grownCap_ge (w.alloc (.cells #[u] E)) (xs.length + 1) xs.length E
    have hle := grownCap_le_maxLen (w.alloc (.cells #[u] E)) (xs.length + 1) xs.length E (by unfold maxLen; omega)
    have hbel : Below B w ((w.alloc (.cells #[u] E)).drew.alloc (.cells (xs.toArray ++ [u].toArray ++ Builtin.zeroCells z.cells (grownCap (w.alloc (.cells #[u] E)) (xs.length + 1) xs.length E - (xs.length + 1))) E)) :=
      ((((Below.refl B w).alloc hB _).drew).alloc (by simp; omega) _)
    refine hK _ _ (h _ _ _ ?_ hbel hbel.size)
    refine ⟨by simp, .inr ⟨_, _, _, by rw [List.length_append]; rfl, by simp; omega, heap_alloc_new _ _, by simpa using hge, hle, ?_, ?_⟩⟩
    · simp [Builtin.zeroCells, hzs]; omega
    · rw [Array.toList_append, Array.toList_append, List.toList_toArray]
      rw [Nat.mul_one]
      exact List.take_left' (by simp)
end Go.Proofs.Ytfjmopiofcbpgaa
