/- A slice of bytes that came in. -/
import Derived.Test.YtaihigaafjmpiaaDoorByt
namespace Go.Proofs.YtaihigaafjmpiaaDoor
open Go.RowKit Go.ChangeShapes Go.WideShapes Go.ChangeAt
set_option linter.unusedVariables false

/-- What the walk is told of a slice of bytes that came in. -/
def BytesIn (w : World) (A : Option Addr) (n c : Nat) (l : List UInt8) : Prop :=
  l.length = n ∧ n ≤ c ∧ c ≤ maxLen ∧ Rds w w.heap.size A (byV l)
variable {H : Type} {enc : TypeId × Value → H} {W : World} {t e : TypeId} {A : Option Addr} {n c : Nat} {d : DataW H} {ps : List MemPlace}
theorem byte_int {z : Int} (h : (Lit.int .u8 z).wf = true) : (((UInt8.ofNat z.toNat).toNat : Nat) : Int) = z := by
  have h2 : 0 ≤ z ∧ z ≤ 255 := by
    simp [Lit.wf, IntKind.min, IntKind.max, IntKind.signed, IntKind.bits] at h
    omega
  rw [UInt8.toNat_ofNat']
  omega
theorem bytes_in (ht : Tryd.prog.underlying t = some (.slice e)) (he : Tryd.prog.underlying e = some (.int .u8)) (hc : Tryd.prog.cellsOf e = 1)
    (h : DataW.Trod enc Tryd.prog W 0 (fun _ => true) true t (.slice A n c) d ps) (hlt : ∀ x ∈ ps, x.block < W.heap.size) : ∃ l, BytesIn W A n c l := by
  obtain ⟨fuel, hf⟩ := h
  rcases open_ints ht he hc hf with ⟨hcs, _⟩ | ⟨x, l, cap, zs, hcs, _, hl, hm, hz, hx, hcell, hwz⟩
  · simp [Value.cells] at hcs
    obtain ⟨rfl, rfl, rfl⟩ := hcs
    exact ⟨[], rfl, Nat.le_refl _, Nat.zero_le _, Rds.nil⟩
  · simp [Value.cells] at hcs
    obtain ⟨rfl, rfl, rfl⟩ := hcs
    simp only [if_true] at hz
    have hps : ps = MemPlace.row x zs.length := by injection hx
    refine ⟨(zs.take n).map fun z => UInt8.ofNat z.toNat, by simp; omega, hl, hm, ?_⟩
    intro k u hu
    have hk : k < n ∧ k < zs.length := by
      have := (List.getElem?_eq_some_iff.1 hu).1
      simp [byV] at this; omega
    refine ⟨x, rfl, row_lt (m := zs.length) (by omega) (by rw [← hps]; exact hlt), ?_⟩
    rw [hcell k hk.2]
    rw [byV, List.getElem?_map, List.getElem?_map, List.getElem?_take_of_lt hk.1, List.getElem?_eq_getElem hk.2] at hu
    simp only [Option.map_some, Option.some.injEq] at hu
    rw [← hu, List.getD_eq_getElem?_getD, List.getElem?_eq_getElem hk.2, byte_int (hwz _ (List.getElem_mem hk.2))]
    rfl
end Go.Proofs.YtaihigaafjmpiaaDoor
