/- Alignments of two lists: the plain law of distances. No program. -/
import Derived.Test.YtfjmopiofcbpgaaEdit
namespace Go.Proofs.Ytfjmopiofcbpgaa
open Go.RowKit
set_option linter.unusedVariables false

/-- An alignment of two lists with n changes. -/
inductive Al {α : Type} : List α → List α → Nat → Prop
  | nil : Al [] [] 0
  | del (a) {v w n} : Al v w n → Al (a :: v) w (n + 1)
  | ins (b) {v w n} : Al v w n → Al v (b :: w) (n + 1)
  | sub (a b) {v w n} : Al v w n → Al (a :: v) (b :: w) (n + 1)
  | eq (a) {v w n} : Al v w n → Al (a :: v) (a :: w) n
variable {α : Type}
theorem Al.symm {v w : List α} {n : Nat} (h : Al v w n) : Al w v n := by
  induction h with
  | nil => exact .nil
  | del a _ ih => exact .ins a ih
  | ins b _ ih => exact .del b ih
  | sub a b _ ih => exact .sub b a ih
  | eq a _ ih => exact .eq a ih
theorem Al.refl : ∀ v : List α, Al v v 0
  | [] => .nil
  | a :: v => .eq a (Al.refl v)
theorem Al.zero {v w : List α} {n : Nat} (h : Al v w n) (hn : n = 0) : v = w := by
  induction h with
  | nil => rfl
  | del a _ ih => omega
  | ins b _ ih => omega
  | sub a b _ ih => omega
  | eq a _ ih => rw [ih hn]
theorem Al.len {v w : List α} {n : Nat} (h : Al v w n) : v.length ≤ w.length + n := by
  induction h with
  | nil => simp
  | del a _ ih => simp; omega
  | ins b _ ih => simp; omega
  | sub a b _ ih => simp; omega
  | eq a _ ih => simp; omega
theorem Al.dels : ∀ v : List α, Al v [] v.length
  | [] => .nil
  | a :: v => .del a (Al.dels v)
theorem Al.inss : ∀ v : List α, Al [] v v.length
  | [] => .nil
  | a :: v => .ins a (Al.inss v)
theorem Al.max_ : ∀ v w : List α, Al v w (max v.length w.length)
  | [], w => by rw [List.length_nil, Nat.zero_max]; exact Al.inss w
  | a :: v, [] => by rw [List.length_nil, Nat.max_zero]; exact Al.dels _
  | a :: v, b :: w => by
    have h := Al.sub a b (Al.max_ v w)
    rw [show max (a :: v).length (b :: w).length = max v.length w.length + 1 by simp only [List.length_cons]; omega]
    exact h
theorem Al.append {v w v' w' : List α} {n m : Nat} (h : Al v w n) (k : Al v' w' m) : Al (v ++ v') (w ++ w') (n + m) := by
  induction h with
  | nil => simpa using k
  | del a _ ih => rw [Nat.add_right_comm]; exact .del a ih
  | ins b _ ih => rw [Nat.add_right_comm]; exact .ins b ih
  | sub a b _ ih => rw [Nat.add_right_comm]; exact .sub a b ih
  | eq a _ ih => exact .eq a ih
theorem Al.reverse {v w : List α} {n : Nat} (h : Al v w n) : Al v.reverse w.reverse n := by
  induction h with
  | nil => exact .nil
  | del a _ ih => rw [List.reverse_cons]; simpa using ih.append (Al.del a .nil)
  | ins b _ ih => rw [List.reverse_cons]; simpa using ih.append (Al.ins b .nil)
  | sub a b _ ih => rw [List.reverse_cons, List.reverse_cons]; exact ih.append (Al.sub a b .nil)
  | eq a _ ih => rw [List.reverse_cons, List.reverse_cons]; exact ih.append (Al.eq a .nil)
/-- The triangle. -/
theorem Al.trans {u v : List α} {n : Nat} (h : Al u v n) : ∀ {w : List α} {m : Nat}, Al v w m → ∃ k, k ≤ n + m ∧ Al u w k := by
  induction h with
  | nil => intro w m k; exact ⟨m, by omega, k⟩
  | del a _ ih =>
    intro w m k
    obtain ⟨j, h1, h2⟩ := ih k
    exact ⟨j + 1, by omega, .del a h2⟩
  | @ins b u v n h0 ih =>
    intro w m k
    generalize hz : b :: v = z at k
    induction k with
    | nil => cases hz
    | del a' k' ih2 =>
      injection hz with e1 e2
      subst e1 e2
      obtain ⟨j, h1, h2⟩ := ih k'
      exact ⟨j, by omega, h2⟩
    | ins b' _ ih2 =>
      obtain ⟨j, h1, h2⟩ := ih2 hz
      exact ⟨j + 1, by omega, .ins b' h2⟩
    | sub a' b' k' ih2 =>
      injection hz with e1 e2
      subst e1 e2
      obtain ⟨j, h1, h2⟩ := ih k'
      exact ⟨j + 1, by omega, .ins b' h2⟩
    | eq a' k' ih2 =>
      injection hz with e1 e2
      subst e1 e2
      obtain ⟨j, h1, h2⟩ := ih k'
      exact ⟨j + 1, by omega, .ins b h2⟩
  | @sub a b u v n h0 ih =>
    intro w m k
    generalize hz : b :: v = z at k
    induction k with
    | nil => cases hz
    | del a' k' ih2 =>
      injection hz with e1 e2
      subst e1 e2
      obtain ⟨j, h1, h2⟩ := ih k'
      exact ⟨j + 1, by omega, .del a h2⟩
    | ins b' _ ih2 =>
      obtain ⟨j, h1, h2⟩ := ih2 hz
      exact ⟨j + 1, by omega, .ins b' h2⟩
    | sub a' b' k' ih2 =>
      injection hz with e1 e2
      subst e1 e2
      obtain ⟨j, h1, h2⟩ := ih k'
      exact ⟨j + 1, by omega, .sub a b' h2⟩
    | eq a' k' ih2 =>
      injection hz with e1 e2
      subst e1 e2
      obtain ⟨j, h1, h2⟩ := ih k'
      exact ⟨j + 1, by omega, .sub a b h2⟩
  | @eq a u v n h0 ih =>
    intro w m k
    generalize hz : a :: v = z at k
    induction k with
    | nil => cases hz
    | del a' k' ih2 =>
      injection hz with e1 e2
      subst e1 e2
      obtain ⟨j, h1, h2⟩ := ih k'
      exact ⟨j + 1, by omega, .del a h2⟩
    | ins b' _ ih2 =>
      obtain ⟨j, h1, h2⟩ := ih2 hz
      exact ⟨j + 1, by omega, .ins b' h2⟩
    | sub a' b' k' ih2 =>
      injection hz with e1 e2
      subst e1 e2
      obtain ⟨j, h1, h2⟩ := ih k'
      exact ⟨j + 1, by omega, .sub a b' h2⟩
    | eq a' k' ih2 =>
      injection hz with e1 e2
      subst e1 e2
      obtain ⟨j, h1, h2⟩ := ih k'
      exact ⟨j, by omega, .eq a h2⟩
/-- Lists of one length: as many changes as places that differ. -/
def ham [DecidableEq α] : List α → List α → Nat
  | a :: v, b :: w => (if a = b then 0 else 1) + ham v w
  | _, _ => 0
theorem Al.ham [DecidableEq α] : ∀ v w : List α, v.length = w.length → Al v w (ham v w)
  | [], [], _ => .nil
  | a :: v, b :: w, h => by
    have ih := Al.ham v w (by simpa using h)
    rw [Ytfjmopiofcbpgaa.ham]
    by_cases e : a = b
    · subst e; rw [if_pos rfl, Nat.zero_add]; exact .eq a ih
    · rw [if_neg e, Nat.add_comm]; exact .sub a b ih
theorem take_rev {v : List UInt8} {i : Nat} {a : UInt8} (h : v[i]? = some a) : (v.take (i + 1)).reverse = a :: (v.take i).reverse := by
  rw [List.take_add_one, h]
  simp
/-- What the table says is reached. -/
theorem ed_al (v w : List UInt8) : ∀ i k, i ≤ v.length → k ≤ w.length → ∃ n : Nat, ed v w i k = (n : Int) ∧ Al (v.take i).reverse (w.take k).reverse n := by
  intro i
  induction i with
  | zero =>
    intro k _ hk
    refine ⟨k, rfl, ?_⟩
    have := Al.inss (w.take k).reverse
    rw [List.length_reverse, List.length_take, Nat.min_eq_left hk] at this
    simpa using this
  | succ i ih =>
    intro k hi hk
    obtain ⟨a, ha⟩ : ∃ a, v[i]? = some a := ⟨v[i], List.getElem?_eq_getElem (by omega)⟩
    induction k with
    | zero =>
      refine ⟨i + 1, rfl, ?_⟩
      have := Al.dels (v.take (i + 1)).reverse
      rw [List.length_reverse, List.length_take, Nat.min_eq_left hi] at this
      simpa using this
    | succ k ihk =>
      obtain ⟨b, hb⟩ : ∃ b, w[k]? = some b := ⟨w[k], List.getElem?_eq_getElem (by omega)⟩
      obtain ⟨n1, e1, h1⟩ := ih k (by omega) (by omega)
      obtain ⟨n2, e2, h2⟩ := ih (k + 1) (by omega) hk
      obtain ⟨n3, e3, h3⟩ := ihk (by omega)
      rw [take_rev ha] at h3 ⊢
      rw [take_rev hb] at h2 ⊢
      have hd : ed v w (i + 1) (k + 1) = min (min (ed v w i k + if v[i]? = w[k]? then 0 else 1) (ed v w i (k + 1) + 1)) (ed v w (i + 1) k + 1) := rfl
      rw [hd, ha, hb, e1, e2, e3]
      have c2 : Al (a :: (v.take i).reverse) (b :: (w.take k).reverse) (n2 + 1) := .del a h2
      have c3 : Al (a :: (v.take i).reverse) (b :: (w.take k).reverse) (n3 + 1) := .ins b h3
      by_cases hab : a = b
      · subst hab
        have c1 : Al (a :: (v.take i).reverse) (a :: (w.take k).reverse) n1 := .eq a h1
        rw [if_pos rfl]
        rcases Nat.le_total n1 (n2 + 1) with q | q
        · rcases Nat.le_total n1 (n3 + 1) with q2 | q2
          · exact ⟨n1, by omega, c1⟩
          · exact ⟨n3 + 1, by omega, c3⟩
        · rcases Nat.le_total (n2 + 1) (n3 + 1) with q2 | q2
          · exact ⟨n2 + 1, by omega, c2⟩
          · exact ⟨n3 + 1, by omega, c3⟩
      · have c1 : Al (a :: (v.take i).reverse) (b :: (w.take k).reverse) (n1 + 1) := .sub a b h1
        rw [if_neg (fun h => hab (Option.some.inj h))]
        rcases Nat.le_total (n1 + 1) (n2 + 1) with q | q
        · rcases Nat.le_total (n1 + 1) (n3 + 1) with q2 | q2
          · exact ⟨n1 + 1, by omega, c1⟩
          · exact ⟨n3 + 1, by omega, c3⟩
        · rcases Nat.le_total (n2 + 1) (n3 + 1) with q2 | q2
          · exact ⟨n2 + 1, by omega, c2⟩
          · exact ⟨n3 + 1, by omega, c3⟩
theorem ed_succ (v w : List UInt8) (i k : Nat) : ed v w (i + 1) (k + 1) = min (min (ed v w i k + if v[i]? = w[k]? then 0 else 1) (ed v w i (k + 1) + 1)) (ed v w (i + 1) k + 1) := rfl
theorem ed_left (v w : List UInt8) : ∀ i k, ed v w (i + 1) k ≤ ed v w i k + 1
  | i, 0 => by cases i <;> simp [ed, nx]
  | i, k + 1 => by rw [ed_succ]; omega
theorem ed_up (v w : List UInt8) : ∀ i k, ed v w i (k + 1) ≤ ed v w i k + 1
  | 0, k => by simp [ed]
  | i + 1, k => by rw [ed_succ]; omega
/-- What the table says is least. -/
theorem ed_least (v w : List UInt8) {x y : List UInt8} {n : Nat} (h : Al x y n) : ∀ i k, i ≤ v.length → k ≤ w.length → x = (v.take i).reverse → y = (w.take k).reverse → ed v w i k ≤ n := by
  have len0 : ∀ (u : List UInt8) j, j ≤ u.length → ([] : List UInt8) = (u.take j).reverse → j = 0 := by
    intro u j hj h
    have := congrArg List.length h
    rw [List.length_reverse, List.length_take, Nat.min_eq_left hj] at this
    simpa using this.symm
  have cons : ∀ (u : List UInt8) j (a : UInt8) z, j ≤ u.length → a :: z = (u.take j).reverse → ∃ j', j = j' + 1 ∧ u[j']? = some a ∧ z = (u.take j').reverse := by
    intro u j a z hj h
    cases j with
    | zero => simp at h
    | succ j =>
      obtain ⟨b, hb⟩ : ∃ b, u[j]? = some b := ⟨u[j], List.getElem?_eq_getElem (by omega)⟩
      rw [take_rev hb] at h
      injection h with e1 e2
      exact ⟨j, rfl, by rw [e1]; exact hb, e2⟩
  induction h with
  | nil =>
    intro i k hi hk hx hy
    have h1 := len0 v i hi hx
    have h2 := len0 w k hk hy
    subst h1 h2
    simp [ed]
  | del a _ ih =>
    intro i k hi hk hx hy
    obtain ⟨j, rfl, _, hz⟩ := cons v i a _ hi hx
    have := ih j k (by omega) hk hz hy
    have := ed_left v w j k
    omega
  | ins b _ ih =>
    intro i k hi hk hx hy
    obtain ⟨j, rfl, _, hz⟩ := cons w k b _ hk hy
    have := ih i j hi (by omega) hx hz
    have := ed_up v w i j
    omega
  | sub a b _ ih =>
    intro i k hi hk hx hy
    obtain ⟨j, rfl, _, hz⟩ := cons v i a _ hi hx
    obtain ⟨m, rfl, _, hz2⟩ := cons w k b _ hk hy
    have := ih j m (by omega) (by omega) hz hz2
    rw [ed_succ]
    split <;> omega
  | eq a _ ih =>
    intro i k hi hk hx hy
    obtain ⟨j, rfl, ha, hz⟩ := cons v i a _ hi hx
    obtain ⟨m, rfl, hb, hz2⟩ := cons w k a _ hk hy
    have := ih j m (by omega) (by omega) hz hz2
    rw [ed_succ, ha, hb, if_pos rfl]
    omega
/-- The distance of two words. -/
def dist (v w : List UInt8) : Int := ed v w v.length w.length
theorem dist_al (v w : List UInt8) : ∃ n : Nat, dist v w = (n : Int) ∧ Al v w n := by
  obtain ⟨n, e, h⟩ := ed_al v w v.length w.length (Nat.le_refl _) (Nat.le_refl _)
  refine ⟨n, e, ?_⟩
  rw [List.take_length, List.take_length] at h
  simpa using h.reverse
theorem dist_least {v w : List UInt8} {n : Nat} (h : Al v w n) : dist v w ≤ n :=
  ed_least v w h.reverse v.length w.length (Nat.le_refl _) (Nat.le_refl _) (by rw [List.take_length]) (by rw [List.take_length])
theorem dist_symm (v w : List UInt8) : dist v w = dist w v := by
  obtain ⟨n, e1, h1⟩ := dist_al v w
  obtain ⟨m, e2, h2⟩ := dist_al w v
  have := dist_least h1.symm
  have := dist_least h2.symm
  omega
theorem dist_zero (v w : List UInt8) : dist v w = 0 ↔ v = w := by
  obtain ⟨n, e1, h1⟩ := dist_al v w
  constructor
  · intro h; exact h1.zero (by omega)
  · intro h
    have := dist_least (h ▸ Al.refl v : Al v w 0)
    omega
theorem dist_max (v w : List UInt8) : dist v w ≤ (max v.length w.length : Nat) := dist_least (Al.max_ v w)
theorem dist_len (v w : List UInt8) : (v.length : Int) - w.length ≤ dist v w := by
  obtain ⟨n, e1, h1⟩ := dist_al v w
  have := h1.len
  omega
theorem dist_tri (u v w : List UInt8) : dist u w ≤ dist u v + dist v w := by
  obtain ⟨n, e1, h1⟩ := dist_al u v
  obtain ⟨m, e2, h2⟩ := dist_al v w
  obtain ⟨k, hk, h⟩ := h1.trans h2
  have := dist_least h
  omega
theorem dist_flip (v w : List UInt8) : dist v.reverse w.reverse = dist v w := by
  obtain ⟨n, e1, h1⟩ := dist_al v w
  obtain ⟨m, e2, h2⟩ := dist_al v.reverse w.reverse
  have a := dist_least h1.reverse
  have b := h2.reverse
  rw [List.reverse_reverse, List.reverse_reverse] at b
  have := dist_least b
  omega
theorem dist_ham (v w : List UInt8) (h : v.length = w.length) : dist v w ≤ (ham v w : Nat) := dist_least (Al.ham v w h)
end Go.Proofs.Ytfjmopiofcbpgaa
