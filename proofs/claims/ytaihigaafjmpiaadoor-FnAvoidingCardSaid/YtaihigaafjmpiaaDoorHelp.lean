/- The laws' own helpers: sizes, copies, comparisons, marks. Each does what the plain function says. -/
import Derived.Test.YtaihigaafjmpiaaDoorMem
namespace Go.Proofs.YtaihigaafjmpiaaDoor
open Go.RowKit Go.ChangeShapes Go.WideShapes
set_option linter.unusedVariables false

def szGo : List ByteArray → Int → Int
  | [], l => l
  | s :: ss, l => if l - s.size < 0 then -1 else szGo ss (l - s.size)
/-- What szStringS returns. -/
def szS (ss : List ByteArray) (l : Int) : Int := if l - ss.length < 0 then -1 else szGo ss (l - ss.length)

theorem szGo_ok : ∀ (ss : List ByteArray) (l : Int), 0 ≤ szGo ss l → ∀ s ∈ ss, (s.size : Int) ≤ l
  | [], _, _, s, hs => by cases hs
  | t :: ss, l, h, s, hs => by
    simp only [szGo] at h
    split at h
    · omega
    · rcases List.mem_cons.1 hs with rfl | hs
      · omega
      · have := szGo_ok ss _ h s hs; omega
theorem szS_len {ss : List ByteArray} {l : Int} (h : ¬ szS ss l < 0) : (ss.length : Int) ≤ l := by
  unfold szS at h; split at h <;> omega
theorem szS_mem {ss : List ByteArray} {l : Int} (h : ¬ szS ss l < 0) : ∀ s ∈ ss, (s.size : Int) ≤ l := by
  intro s hs
  unfold szS at h
  split at h
  · omega
  · have := szGo_ok ss (l - ss.length) (by omega) s hs; omega

theorem info_string : (Tryd.prog.info? 9).map (fun i => (i.zero, i.size, i.bytes)) = some (some (.string ByteArray.empty), 1, 16) := by kernel_rfl
theorem info_int : (Tryd.prog.info? 3).map (fun i => (i.zero, i.size, i.bytes)) = some (some (.int .i64 0), 1, 8) := by kernel_rfl

/-- The marks from k on. -/
def marks (k : Int) : Nat → List Int
  | 0 => []
  | n + 1 => k :: marks (k + 1) n
theorem marks_length : ∀ (n : Nat) (k : Int), (marks k n).length = n
  | 0, _ => rfl
  | n + 1, k => by simp [marks, marks_length n]
theorem marks_at : ∀ (n : Nat) (k : Int) (i : Nat), i < n → (marks k n)[i]? = some (k + i)
  | 0, _, _, h => by omega
  | n + 1, k, 0, _ => by simp [marks]
  | n + 1, k, i + 1, h => by
    simp only [marks, List.getElem?_cons_succ]
    rw [marks_at n (k + 1) i (by omega)]
    congr 1; omega
theorem mark_step (xs : List Int) (m : Int) (k : Nat) (hlt : k < xs.length) : ((marks m xs.length).take k ++ xs.drop k).set k (m + k) = (marks m xs.length).take (k + 1) ++ xs.drop (k + 1) := by
  have hl : ((marks m xs.length).take k).length = k := by simp [marks_length]; omega
  rw [List.set_append_right _ _ (by omega), hl, Nat.sub_self, List.take_add_one, marks_at _ _ _ hlt, List.drop_eq_getElem_cons hlt, List.set_cons_zero]
  rw [Option.toList_some, List.append_assoc, List.singleton_append]

end Go.Proofs.YtaihigaafjmpiaaDoor
