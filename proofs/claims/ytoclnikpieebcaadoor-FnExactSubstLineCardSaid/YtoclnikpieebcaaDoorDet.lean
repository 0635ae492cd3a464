/- Determinants, plain: the expansion along the first row, over lists, and its bounds; the matrix of a substitution. No condition but the bounds. -/
import Derived.Test.YtoclnikpieebcaaDoorMem
namespace Go.Proofs.YtoclnikpieebcaaDoor
set_option linter.unusedVariables false

/-- A row without one place. -/
def cutAt (k : Nat) (r : List Int) : List Int := r.take k ++ r.drop (k + 1)
theorem cutAt_len {k : Nat} {r : List Int} (h : k < r.length) : (cutAt k r).length = r.length - 1 := by
  unfold cutAt; rw [List.length_append, List.length_take, List.length_drop]; omega
theorem cutAt_mem {k : Nat} {r : List Int} {x : Int} (h : x ∈ cutAt k r) : x ∈ r := by
  unfold cutAt at h
  rcases List.mem_append.1 h with h | h
  · exact List.mem_of_mem_take h
  · exact List.mem_of_mem_drop h
/-- The sum along what is left of the first row, from place k on. -/
def dtS (f : List (List Int) → Int) (rs : List (List Int)) : List Int → Nat → Int → Int → Int
  | [], _, _, s => s
  | x :: t, k, g, s => dtS f rs t (k + 1) (-g) (s + g * x * f (rs.map (cutAt k)))
def dtF : Nat → List (List Int) → Int
  | 0, _ => 1
  | _ + 1, [] => 1
  | n + 1, r :: rs => dtS (dtF n) rs r 0 1 0
/-- A square of n rows, its numbers small. -/
def sqM (n : Nat) (m : List (List Int)) : Prop := m.length = n ∧ ∀ r ∈ m, r.length = n ∧ ∀ x ∈ r, -100 ≤ x ∧ x ≤ 100
theorem sq_minor {n : Nat} {r : List Int} {rs : List (List Int)} (h : sqM (n + 1) (r :: rs)) {k : Nat} (hk : k < n + 1) : sqM n (rs.map (cutAt k)) := by
  obtain ⟨h1, h2⟩ := h
  refine ⟨by rw [List.length_map]; simpa using h1, fun y hy => ?_⟩
  obtain ⟨z, hz, rfl⟩ := List.mem_map.1 hy
  obtain ⟨h3, h4⟩ := h2 z (List.mem_cons_of_mem _ hz)
  exact ⟨by rw [cutAt_len (by omega)]; omega, fun x hx => h4 x (cutAt_mem hx)⟩
def dtB : Nat → Nat
  | 0 => 1
  | n + 1 => (n + 1) * (100 * dtB n)
theorem term_bd {g x y : Int} {D : Nat} (hg : g.natAbs = 1) (hx : -100 ≤ x ∧ x ≤ 100) (hy : y.natAbs ≤ D) : (g * x * y).natAbs ≤ 100 * D := by
  rw [Int.natAbs_mul, Int.natAbs_mul, hg, Nat.one_mul]
  exact Nat.mul_le_mul (by omega) hy
theorem dtS_bd {f : List (List Int) → Int} {rs : List (List Int)} {D N : Nat} (hf : ∀ k, k < N → (f (rs.map (cutAt k))).natAbs ≤ D) :
    ∀ (t : List Int) (k : Nat) (g s : Int), k + t.length ≤ N → (∀ x ∈ t, -100 ≤ x ∧ x ≤ 100) → g.natAbs = 1 → (dtS f rs t k g s).natAbs ≤ s.natAbs + t.length * (100 * D)
  | [], k, g, s, _, _, _ => by simp [dtS]
  | x :: t, k, g, s, hk, hx, hg => by
    rw [List.length_cons] at hk
    have h1 := term_bd hg (hx x (by simp)) (hf k (by omega))
    have h2 := dtS_bd hf t (k + 1) (-g) (s + g * x * f (rs.map (cutAt k))) (by omega) (fun y hy => hx y (List.mem_cons_of_mem _ hy)) (by omega)
    have h3 : (t.length + 1) * (100 * D) = t.length * (100 * D) + 100 * D := Nat.succ_mul _ _
    rw [dtS, List.length_cons, h3]
    have h4 := Int.natAbs_add_le s (g * x * f (rs.map (cutAt k)))
    omega
theorem dt_bd : ∀ (n : Nat) (m : List (List Int)), sqM n m → (dtF n m).natAbs ≤ dtB n
  | 0, _, _ => by simp [dtF, dtB]
  | n + 1, [], h => by have := h.1; simp at this
  | n + 1, r :: rs, h => by
    have h2 := h.2 r (by simp)
    have h3 := dtS_bd (D := dtB n) (N := n + 1) (fun k hk => dt_bd n _ (sq_minor h hk)) r 0 1 0 (by omega) h2.2 (by decide)
    rw [h2.1] at h3
    simpa [dtF, dtB] using h3
theorem dtB_le {n : Nat} (h : n ≤ 3) : dtB n ≤ 6000000 := by
  match n, h with
  | 0, _ => decide
  | 1, _ => decide
  | 2, _ => decide
  | 3, _ => decide
theorem dtB_le4 {n : Nat} (h : n ≤ 4) : dtB n ≤ 2400000000 := by
  match n, h with
  | 0, _ => decide
  | 1, _ => decide
  | 2, _ => decide
  | 3, _ => decide
  | 4, _ => decide
/-- One step of the sum. -/
theorem dtS_step {f : List (List Int) → Int} {rs : List (List Int)} {r : List Int} {k : Nat} {g s x : Int} (h : r[k]? = some x) :
    dtS f rs (r.drop k) k g s = dtS f rs (r.drop (k + 1)) (k + 1) (-g) (s + g * x * f (rs.map (cutAt k))) := by
  rw [drop_at_list h, dtS]
theorem dtS_end {f : List (List Int) → Int} {rs : List (List Int)} {r : List Int} {k : Nat} {g s : Int} (h : r.length ≤ k) : dtS f rs (r.drop k) k g s = s := by
  rw [List.drop_eq_nil_of_le h, dtS]

/-- How often a letter stands in a word. -/
def ctC (i : Nat) (y : ByteArray) : Int := ((L y).count (UInt8.ofNat (97 + i)) : Nat)
def mtR (zs : List ByteArray) (i : Nat) : List Int := zs.map (ctC i)
def mtL (zs : List ByteArray) : List (List Int) := (List.range zs.length).map (mtR zs)
theorem ctC_bd {i : Nat} {y : ByteArray} (h : y.size ≤ 8) : 0 ≤ ctC i y ∧ ctC i y ≤ 8 := by
  have := List.count_le_length (a := UInt8.ofNat (97 + i)) (l := L y)
  rw [L_len] at this
  unfold ctC; omega
theorem mt_sq {zs : List ByteArray} (h : ∀ y ∈ zs, y.size ≤ 8) : sqM zs.length (mtL zs) := by
  refine ⟨by simp [mtL], fun r hr => ?_⟩
  obtain ⟨i, _, rfl⟩ := List.mem_map.1 hr
  refine ⟨by simp [mtR], fun x hx => ?_⟩
  obtain ⟨y, hy, rfl⟩ := List.mem_map.1 hx
  have := ctC_bd (i := i) (h y hy)
  omega
theorem mt_row {zs : List ByteArray} {i : Nat} (h : i < zs.length) : (mtL zs)[i]? = some (mtR zs i) := by
  unfold mtL
  rw [List.getElem?_map, List.getElem?_range h]; rfl
/-- The determinant of a substitution. -/
def suD (zs : List ByteArray) : Int := dtF zs.length (mtL zs)
end Go.Proofs.YtoclnikpieebcaaDoor
