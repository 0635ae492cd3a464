/- Tables of integers in memory: a slice of rows; one more row; one append, whatever is appended. No condition. -/
import Derived.Test.YtoclnikpieebcaaDoorApp4
import Derived.Test.YtoclnikpieebcaaDoorOwb
import Derived.Test.YtoclnikpieebcaaDoorDet
namespace Go.Proofs.YtoclnikpieebcaaDoor
open Go.RowKit
set_option linter.unusedVariables false

def ints (r : List Int) : List Value := r.map (Value.int .i64)
theorem ints_len (r : List Int) : (ints r).length = r.length := List.length_map ..
theorem ints_at {r : List Int} {j : Nat} {x : Int} (h : r[j]? = some x) : (ints r)[j]? = some (.int .i64 x) := map_at _ h
theorem ints_app (a b : List Int) : ints (a ++ b) = ints a ++ ints b := List.map_append
theorem ints_one (r : List Int) : ∀ v ∈ ints r, v.oneCell' = true := fun v hv => by
  obtain ⟨x, _, rfl⟩ := List.mem_map.1 hv; rfl

/-- The value u is a row of the numbers r, in a block below B other than go. -/
def RowV (w : World) (B go : Nat) (u : Value) (r : List Int) : Prop :=
  ∃ q c, u = .slice (some ⟨q, 0, none⟩) r.length c ∧ r.length ≤ c ∧ c ≤ maxLen ∧ q < B ∧ q ≠ go ∧ ∀ (j : Nat) (x : Int), r[j]? = some x → w.cell? ⟨q, j, none⟩ = some (.int .i64 x)
/-- The rows m lie in block g, one behind the other. -/
def Gr (w : World) (B g : Nat) (m : List (List Int)) : Prop := g < B ∧ ∀ (i : Nat) (r : List Int), m[i]? = some r → ∃ u, w.cell? ⟨g, i, none⟩ = some u ∧ RowV w B g u r
section
variable {w w' : World} {B B' go : Nat} {u : Value} {r : List Int} {m : List (List Int)}
theorem RowV.below (h : RowV w B go u r) (hb : Below B' w w') (hB : B ≤ B') : RowV w' B go u r := by
  obtain ⟨q, c, e, h1, h2, h3, h4, h5⟩ := h
  exact ⟨q, c, e, h1, h2, h3, h4, fun j x hx => (hb.cell (p := ⟨q, j, none⟩) (by show q < B'; omega)).trans (h5 j x hx)⟩
theorem RowV.more (h : RowV w B go u r) (hB : B ≤ B') : RowV w B' go u r := by
  obtain ⟨q, c, e, h1, h2, h3, h4, h5⟩ := h
  exact ⟨q, c, e, h1, h2, by omega, h4, h5⟩
theorem Gr.below (h : Gr w B go m) (hb : Below B' w w') (hB : B ≤ B') : Gr w' B go m :=
  ⟨h.1, fun i r hr => by
    obtain ⟨u, hu, hv⟩ := h.2 i r hr
    exact ⟨u, (hb.cell (p := ⟨go, i, none⟩) (by show go < B'; have := h.1; omega)).trans hu, hv.below hb hB⟩⟩
theorem Gr.more (h : Gr w B go m) (hB : B ≤ B') : Gr w B' go m :=
  ⟨by have := h.1; omega, fun i r hr => by
    obtain ⟨u, hu, hv⟩ := h.2 i r hr
    exact ⟨u, hu, hv.more hB⟩⟩
theorem Gr.row (h : Gr w B go m) {i : Nat} {r : List Int} (hr : m[i]? = some r) : ∃ q c, w.cell? ⟨go, i, none⟩ = some (.slice (some ⟨q, 0, none⟩) r.length c) ∧ r.length ≤ c ∧ c ≤ maxLen ∧ q < B ∧ ∀ (j : Nat) (x : Int), r[j]? = some x → w.cell? ⟨q, j, none⟩ = some (.int .i64 x) := by
  obtain ⟨u, hu, q, c, rfl, h1, h2, h3, _, h5⟩ := h.2 i r hr
  exact ⟨q, c, hu, h1, h2, h3, h5⟩
theorem RowV.ofOwn {E q n c : Nat} (h : Own w B E (.slice (some ⟨q, 0, none⟩) n c) (ints r)) (hn : r.length = n) (hg : go < B) : RowV w w.heap.size go (.slice (some ⟨q, 0, none⟩) n c) r := by
  subst hn
  obtain ⟨A', c', hv, h1, h2, _⟩ := h.shape
  injection hv with e1 e2 e3
  subst e3
  have hl := World.ownsRow.lt h q rfl
  rw [ints_len] at h1
  exact ⟨q, c, rfl, h1, h2, hl.2, by omega, fun j x hx => by
    have h2 : w.ownsRow B E 1 (.slice (some ⟨q, 0, none⟩) r.length c) r.length (ints r) := by have := h; unfold Own at this; rwa [ints_len] at this
    rw [World.ownsRow.cellAt h2 j (by have := (List.getElem?_eq_some_iff.1 hx).1; omega)]
    exact ints_at hx⟩
end

/-- A table of the call's own, row by row. -/
structure Bld (w : World) (B : Nat) (E : TypeId) (g n c : Nat) (vs : List Value) (rs : List (List Int)) : Prop where
  own : Own w B E (.slice (some ⟨g, 0, none⟩) n c) vs
  vlen : vs.length = n
  rlen : rs.length = n
  rows : ∀ (i : Nat) (r : List Int), rs[i]? = some r → ∃ u, vs[i]? = some u ∧ RowV w w.heap.size g u r
section
variable {w w' : World} {B g n c : Nat} {E : TypeId} {vs : List Value} {rs : List (List Int)} {u : Value} {r : List Int}
theorem Bld.lt (h : Bld w B E g n c vs rs) : B ≤ g ∧ g < w.heap.size := World.ownsRow.lt h.own g rfl
theorem Bld.cap (h : Bld w B E g n c vs rs) : n ≤ c ∧ c ≤ maxLen := by
  obtain ⟨A', c', hv, h1, h2, _⟩ := h.own.shape
  injection hv with e1 e2 e3
  subst e3
  rw [h.vlen] at h1
  exact ⟨h1, h2⟩
theorem Bld.below (h : Bld w B E g n c vs rs) (hb : Below w.heap.size w w') : Bld w' B E g n c vs rs :=
  ⟨h.own.below hb, h.vlen, h.rlen, fun i r hr => by
    obtain ⟨u, hu, hv⟩ := h.rows i r hr
    exact ⟨u, hu, (hv.below hb (Nat.le_refl _)).more hb.size⟩⟩
theorem Bld.lower {B' : Nat} (h : Bld w B E g n c vs rs) (hB : B' ≤ B) : Bld w B' E g n c vs rs := ⟨h.own.lower hB, h.vlen, h.rlen, h.rows⟩
theorem Bld.gr (h : Bld w B E g n c vs rs) : Gr w w.heap.size g rs :=
  ⟨h.lt.2, fun i r hr => by
    obtain ⟨u, hu, hv⟩ := h.rows i r hr
    refine ⟨u, ?_, hv⟩
    have h2 : w.ownsRow B E 1 (.slice (some ⟨g, 0, none⟩) n c) n vs := by have := h.own; unfold Own at this; rwa [h.vlen] at this
    rw [World.ownsRow.cellAt h2 i (by have := (List.getElem?_eq_some_iff.1 hu).1; have := h.vlen; omega)]
    exact hu⟩
/-- .. behind one more row. -/
theorem Bld.add {v' : Value} (h : Bld w B E g n c vs rs) (hr : RowV w w.heap.size g u r) (ho : Own w' B E v' (vs ++ [u])) (hg : w.grownBy w' (some g)) (hat : v'.ownBlock = some g ∨ v'.ownBlock = some w.heap.size) :
    ∃ g' c', v' = .slice (some ⟨g', 0, none⟩) (n + 1) c' ∧ Bld w' B E g' (n + 1) c' (vs ++ [u]) (rs ++ [r]) := by
  have hl1 : (vs ++ [u]).length = n + 1 := by rw [List.length_append, h.vlen]; rfl
  have hne : ∃ g', v'.ownBlock = some g' ∧ (g' = g ∨ g' = w.heap.size) := by
    rcases hat with e | e
    · exact ⟨g, e, .inl rfl⟩
    · exact ⟨_, e, .inr rfl⟩
  obtain ⟨g', he, hgg⟩ := hne
  have hv : ∃ c', v' = .slice (some ⟨g', 0, none⟩) (n + 1) c' := by
    rcases ho.2 with ⟨rfl, hn⟩ | ⟨k, cap, cur, rfl, _⟩
    · simp [Value.ownBlock] at he
    · simp only [Value.ownBlock, Option.some.injEq] at he
      subst he
      exact ⟨cap, by rw [hl1]⟩
  obtain ⟨c', rfl⟩ := hv
  have hgl := h.lt.2
  have keep : ∀ u2 r2, RowV w w.heap.size g u2 r2 → RowV w' w'.heap.size g' u2 r2 := fun u2 r2 hv => by
    obtain ⟨q, c2, e, h1, h2, h3, h4, h5⟩ := hv
    refine ⟨q, c2, e, h1, h2, Nat.lt_of_lt_of_le h3 hg.size, by omega, fun j x hx => ?_⟩
    exact (hg.cell_far ⟨q, j, none⟩ h3 (by simpa using h4)).trans (h5 j x hx)
  refine ⟨g', c', rfl, ho, hl1, by rw [List.length_append, h.rlen]; rfl, fun i r2 hr2 => ?_⟩
  by_cases hi : i < n
  · rw [List.getElem?_append_left (by rw [h.rlen]; exact hi)] at hr2
    obtain ⟨u2, hu2, hv2⟩ := h.rows i r2 hr2
    exact ⟨u2, by rw [List.getElem?_append_left (by rw [h.vlen]; exact hi)]; exact hu2, keep _ _ hv2⟩
  · have hin : i = n := by
      have := (List.getElem?_eq_some_iff.1 hr2).1
      rw [List.length_append, h.rlen] at this
      simp at this; omega
    subst hin
    rw [List.getElem?_append_right (by rw [h.rlen]; exact Nat.le_refl _), h.rlen, Nat.sub_self] at hr2
    simp at hr2
    subst hr2
    exact ⟨u, by rw [List.getElem?_append_right (by rw [h.vlen]; exact Nat.le_refl _), h.vlen, Nat.sub_self]; rfl, keep _ _ hr⟩
theorem Bld.add4 {g' c' : Nat} (h : Bld w B E g n c vs rs) (hr : RowV w w.heap.size g u r) (ha : App4 w w' B E g n c g' (n + 1) c' (vs ++ [u])) : Bld w' B E g' (n + 1) c' (vs ++ [u]) (rs ++ [r]) := by
  have hl1 : (vs ++ [u]).length = n + 1 := by rw [List.length_append, h.vlen]; rfl
  have keep : ∀ u2 r2, RowV w w.heap.size g u2 r2 → RowV w' w'.heap.size g' u2 r2 := fun u2 r2 hv => by
    obtain ⟨q, c2, e, h1, h2, h3, h4, h5⟩ := hv
    exact ⟨q, c2, e, h1, h2, Nat.lt_of_lt_of_le h3 ha.size, ha.far q h3 h4, fun j x hx => (ha.kept q j h3 (.inl h4)).trans (h5 j x hx)⟩
  refine ⟨ha.own, hl1, by rw [List.length_append, h.rlen]; rfl, fun i r2 hr2 => ?_⟩
  by_cases hi : i < n
  · rw [List.getElem?_append_left (by rw [h.rlen]; exact hi)] at hr2
    obtain ⟨u2, hu2, hv2⟩ := h.rows i r2 hr2
    exact ⟨u2, by rw [List.getElem?_append_left (by rw [h.vlen]; exact hi)]; exact hu2, keep _ _ hv2⟩
  · have hin : i = n := by
      have := (List.getElem?_eq_some_iff.1 hr2).1
      rw [List.length_append, h.rlen] at this
      simp at this; omega
    subst hin
    rw [List.getElem?_append_right (by rw [h.rlen]; exact Nat.le_refl _), h.rlen, Nat.sub_self] at hr2
    simp at hr2
    subst hr2
    exact ⟨u, by rw [List.getElem?_append_right (by rw [h.vlen]; exact Nat.le_refl _), h.vlen, Nat.sub_self]; rfl, keep _ _ hr⟩
theorem Bld.empty (w : World) (hB : B ≤ w.heap.size) : Bld (w.alloc (.cells #[] E)) B E w.heap.size 0 0 [] [] :=
  ⟨Own.empty hB, rfl, rfl, fun i r hr => by simp at hr⟩
end

/-- One append in a region that draws its order, whatever is appended, at whatever world. -/
theorem step_appR {P : Program} {W : World} {ops : Array Oper} {o : Oper} {a : Act} {K : Act → World → Prop} {Q : Exit → Act → World → Prop} {R : Prop} {E : TypeId} {v : Value} {xs : List Value} (hg : o.guard = none) (s x : Operand) (t : TypeId)
    (ho : o.op = .call { callee := .builtin .append, args := #[s, x], argTypes := #[t, t] })
    (z : Value) (bytes : Nat) (ht : P.underlying t = some (.slice E)) (hinfo : (P.info? E).map (fun i => (i.zero, i.size, i.bytes)) = some (some z, 1, bytes)) (hzs : z.cells.size = 1)
    (B n : Nat) (hxl : xs.length = n) (hs : a.eval s = v) (hown : Own W B E v xs) (ad : Addr) (k c2 : Nat) (news : List Value) (hx : a.eval x = .slice (some ad) k c2)
    (hl : news.length = k) (hnews : ∀ j u, news[j]? = some u → W.cell? (ad.add j) = some u) (h1 : ∀ u ∈ news, u.oneCell' = true)
    (nr : Nat) (hnr : n + k = nr) (hn : nr < 4294967296) (hb16 : bytes ≤ 1024) (hB : B ≤ W.heap.size)
    (h : ∀ A' c' w', Own w' B E (.slice A' nr c') (xs ++ news) → W.grownBy w' v.ownBlock → ((Value.slice A' nr c').ownBlock = v.ownBlock ∨ (Value.slice A' nr c').ownBlock = some W.heap.size) → (Value.slice A' nr c' = .slice none 0 0 ↔ v = .slice none 0 0 ∧ k = 0) → K (a.put o.dst (.slice A' nr c')) w') :
    if Region.wanted o (yielded ops a.tmps) = true then Oper.wp P o a W K Q else R := by
  subst hxl hnr
  obtain ⟨i, hi, hz, hsize, hby⟩ := info_parts hinfo
  have hw : Region.wanted o (yielded ops a.tmps) = true := by simp [Region.wanted, hg]
  rw [if_pos hw]
  obtain ⟨v', w', hr, h2, h3, h4, h5⟩ := run_append_own_at (P := P) (w := W) B t o.type E i z 1 bytes ht hi hz hsize hby hzs (by decide) v xs.length xs hown ad k c2 news (by rw [Nat.mul_one]; exact hl) hnews h1 (by unfold maxLen; omega)
    (calc (xs.length + k) * bytes ≤ 4294967296 * 1024 := Nat.mul_le_mul (by omega) hb16
      _ ≤ 140737488355328 := by decide) hB
  have h2' : Own w' B E v' (xs ++ news) := by unfold Own; rw [List.length_append, hl]; exact h2
  obtain ⟨A', c', rfl, _⟩ := h2'.shape
  rw [List.length_append, hl] at h2' h5 h4 hr
  unfold Oper.wp execOp
  simp only [ho, resolve, invoke, builtin, Sem.run_bind, Sem.run_pure, Result.andThen_ok, List.map_toArray, List.map_cons, List.map_nil, hs, hx, hr]
  exact h A' c' w' h2' h3 h5 h4
end Go.Proofs.YtoclnikpieebcaaDoor
