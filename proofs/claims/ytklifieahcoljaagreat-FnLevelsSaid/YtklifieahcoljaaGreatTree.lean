/-
  Plain trees for the types and the terms of the language, and the plain functions on them that both texts compute. No program in sight.
-/
import GoSem.Core.Value
namespace Go.Proofs.YtklifieahcoljaaGreat

/-- A type of the language: what a Go value of 'Type' reads xs. -/
structure Ty where
  kind : Int
  args : List Ty

/-- A term of the language: what a Go value of 'Term' reads xs. -/
structure Tm where
  kind : Int
  name : ByteArray
  other : ByteArray
  n : Int
  type : Ty
  res : Ty
  args : List Tm

theorem Ty.ind {P : Ty → Prop} (h : ∀ k xs, (∀ t ∈ xs, P t) → P ⟨k, xs⟩) (t : Ty) : P t := by
  refine Ty.rec (motive_1 := P) (motive_2 := fun xs => ∀ t ∈ xs, P t) (fun k xs ih => h k xs ih) ?_ ?_ t
  · intro t ht
    cases ht
  · intro a xs iha ihas t ht
    cases ht with
    | head => exact iha
    | tail _ h => exact ihas _ h

theorem Tm.ind {P : Tm → Prop} (h : ∀ k nm ot n ty re xs, (∀ t ∈ xs, P t) → P ⟨k, nm, ot, n, ty, re, xs⟩) (t : Tm) : P t := by
  refine Tm.rec (motive_1 := P) (motive_2 := fun xs => ∀ t ∈ xs, P t) (fun k nm ot n ty re xs ih => h k nm ot n ty re xs ih) ?_ ?_ t
  · intro t ht
    cases ht
  · intro a xs iha ihas t ht
    cases ht with
    | head => exact iha
    | tail _ h => exact ihas _ h

/-! ### Nodes and depths -/
mutual
def Ty.size : Ty → Nat
  | ⟨_, xs⟩ => 1 + Ty.sizes xs
def Ty.sizes : List Ty → Nat
  | [] => 0
  | t :: ts => t.size + Ty.sizes ts
end
mutual
def Ty.depth : Ty → Nat
  | ⟨_, xs⟩ => Ty.depths xs + 1
def Ty.depths : List Ty → Nat
  | [] => 0
  | t :: ts => max t.depth (Ty.depths ts)
end
mutual
def Tm.size : Tm → Nat
  | ⟨_, _, _, _, _, _, xs⟩ => 1 + Tm.sizes xs
def Tm.sizes : List Tm → Nat
  | [] => 0
  | t :: ts => t.size + Tm.sizes ts
end
mutual
def Tm.depth : Tm → Nat
  | ⟨_, _, _, _, _, _, xs⟩ => Tm.depths xs + 1
def Tm.depths : List Tm → Nat
  | [] => 0
  | t :: ts => max t.depth (Tm.depths ts)
end

theorem Ty.sizes_append (xs bs : List Ty) : Ty.sizes (xs ++ bs) = Ty.sizes xs + Ty.sizes bs := by
  induction xs with
  | nil => simp [Ty.sizes]
  | cons a xs ih => simp [Ty.sizes, ih]; omega
theorem Ty.depths_append (xs bs : List Ty) : Ty.depths (xs ++ bs) = max (Ty.depths xs) (Ty.depths bs) := by
  induction xs with
  | nil => simp [Ty.depths]
  | cons a xs ih => simp [Ty.depths, ih, Nat.max_assoc]
theorem Tm.sizes_append (xs bs : List Tm) : Tm.sizes (xs ++ bs) = Tm.sizes xs + Tm.sizes bs := by
  induction xs with
  | nil => simp [Tm.sizes]
  | cons a xs ih => simp [Tm.sizes, ih]; omega
theorem Tm.depths_append (xs bs : List Tm) : Tm.depths (xs ++ bs) = max (Tm.depths xs) (Tm.depths bs) := by
  induction xs with
  | nil => simp [Tm.depths]
  | cons a xs ih => simp [Tm.depths, ih, Nat.max_assoc]

theorem Ty.size_pos (t : Ty) : 1 ≤ t.size := by cases t; rw [Ty.size]; omega
theorem Tm.size_pos (t : Tm) : 1 ≤ t.size := by cases t; rw [Tm.size]; omega
theorem Ty.size_eq (t : Ty) : t.size = 1 + Ty.sizes t.args := by cases t; rw [Ty.size]
theorem Tm.size_eq (t : Tm) : t.size = 1 + Tm.sizes t.args := by cases t; rw [Tm.size]
theorem Ty.length_le_sizes (xs : List Ty) : xs.length ≤ Ty.sizes xs := by
  induction xs with
  | nil => simp
  | cons x xs ih => have := x.size_pos; simp [Ty.sizes]; omega
theorem Tm.length_le_sizes (xs : List Tm) : xs.length ≤ Tm.sizes xs := by
  induction xs with
  | nil => simp
  | cons x xs ih => have := x.size_pos; simp [Tm.sizes]; omega

/-- A list's first k + 1 elements. -/
theorem take_snoc {α : Type} (l : List α) (k : Nat) (h : k < l.length) : l.take (k + 1) = l.take k ++ [l[k]] := by
  rw [List.take_succ_eq_append_getElem h]

theorem Ty.sizes_take (xs : List Ty) (k : Nat) (h : k < xs.length) : Ty.sizes (xs.take (k + 1)) = Ty.sizes (xs.take k) + (1 + Ty.sizes xs[k].args) := by
  rw [take_snoc xs k h, Ty.sizes_append, ← Ty.size_eq]
  simp [Ty.sizes]
theorem Tm.sizes_take (xs : List Tm) (k : Nat) (h : k < xs.length) : Tm.sizes (xs.take (k + 1)) = Tm.sizes (xs.take k) + (1 + Tm.sizes xs[k].args) := by
  rw [take_snoc xs k h, Tm.sizes_append, ← Tm.size_eq]
  simp [Tm.sizes]
theorem Ty.sizes_take_le (xs : List Ty) (k : Nat) : Ty.sizes (xs.take k) + (xs.length - k) ≤ Ty.sizes xs := by
  have h := Ty.sizes_append (xs.take k) (xs.drop k)
  rw [List.take_append_drop] at h
  have := Ty.length_le_sizes (xs.drop k)
  simp at this
  omega
theorem Tm.sizes_take_le (xs : List Tm) (k : Nat) : Tm.sizes (xs.take k) + (xs.length - k) ≤ Tm.sizes xs := by
  have h := Tm.sizes_append (xs.take k) (xs.drop k)
  rw [List.take_append_drop] at h
  have := Tm.length_le_sizes (xs.drop k)
  simp at this
  omega

theorem Ty.depth_eq (t : Ty) : t.depth = Ty.depths t.args + 1 := by cases t; rw [Ty.depth]
theorem Tm.depth_eq (t : Tm) : t.depth = Tm.depths t.args + 1 := by cases t; rw [Tm.depth]
theorem Ty.depths_take (xs : List Ty) (k : Nat) (h : k < xs.length) : Ty.depths (xs.take (k + 1)) = max (Ty.depths (xs.take k)) xs[k].depth := by
  rw [take_snoc xs k h, Ty.depths_append]
  simp [Ty.depths]
theorem Tm.depths_take (xs : List Tm) (k : Nat) (h : k < xs.length) : Tm.depths (xs.take (k + 1)) = max (Tm.depths (xs.take k)) xs[k].depth := by
  rw [take_snoc xs k h, Tm.depths_append]
  simp [Tm.depths]
theorem Ty.depths_le (xs : List Ty) (h : ∀ t ∈ xs, t.depth ≤ t.size) : Ty.depths xs ≤ Ty.sizes xs := by
  induction xs with
  | nil => simp [Ty.depths]
  | cons x xs ih =>
    have h1 := h x (by simp)
    have h2 := ih fun t ht => h t (by simp [ht])
    simp only [Ty.depths, Ty.sizes]
    omega
theorem Tm.depths_le (xs : List Tm) (h : ∀ t ∈ xs, t.depth ≤ t.size) : Tm.depths xs ≤ Tm.sizes xs := by
  induction xs with
  | nil => simp [Tm.depths]
  | cons x xs ih =>
    have h1 := h x (by simp)
    have h2 := ih fun t ht => h t (by simp [ht])
    simp only [Tm.depths, Tm.sizes]
    omega
theorem Ty.depth_le_size (t : Ty) : t.depth ≤ t.size := by
  induction t using Ty.ind with | h k xs ih => ?_
  have := Ty.depths_le xs ih
  rw [Ty.depth, Ty.size]
  omega
theorem Tm.depth_le_size (t : Tm) : t.depth ≤ t.size := by
  induction t using Tm.ind with | h k nm ot n ty re xs ih => ?_
  have := Tm.depths_le xs ih
  rw [Tm.depth, Tm.size]
  omega

/-! ### Equality -/
mutual
def Ty.beq : Ty → Ty → Bool
  | ⟨k, xs⟩, ⟨l, ys⟩ => k == l && Ty.beqs xs ys
def Ty.beqs : List Ty → List Ty → Bool
  | [], [] => true
  | x :: xs, y :: ys => x.beq y && Ty.beqs xs ys
  | _, _ => false
end
theorem Ty.beqs_iff : ∀ (xs ys : List Ty), Ty.beqs xs ys = true ↔ xs.length = ys.length ∧ ∀ i (h : i < xs.length) (h' : i < ys.length), xs[i].beq ys[i] = true
  | [], [] => by simp [Ty.beqs]
  | [], y :: ys => by simp [Ty.beqs]
  | x :: xs, [] => by simp [Ty.beqs]
  | x :: xs, y :: ys => by
    rw [Ty.beqs, Bool.and_eq_true, Ty.beqs_iff xs ys]
    constructor
    · rintro ⟨h0, h1, h2⟩
      refine ⟨by simp [h1], fun i h h' => ?_⟩
      cases i with
      | zero => exact h0
      | succ i => exact h2 i (by simpa using h) (by simpa using h')
    · rintro ⟨h1, h2⟩
      refine ⟨h2 0 (by simp) (by simp), by simpa using h1, fun i h h' => ?_⟩
      exact h2 (i + 1) (by simpa using h) (by simpa using h')
theorem Ty.beqs_no {xs ys : List Ty} {i : Nat} (h : i < xs.length) (h' : i < ys.length) (hn : xs[i].beq ys[i] = false) : Ty.beqs xs ys = false := by
  rw [← Bool.not_eq_true, Ty.beqs_iff]
  rintro ⟨_, h2⟩
  rw [h2 i h h'] at hn
  cases hn
theorem Ty.beqs_len {xs ys : List Ty} (h : xs.length ≠ ys.length) : Ty.beqs xs ys = false := by
  rw [← Bool.not_eq_true, Ty.beqs_iff]
  exact fun hh => h hh.1
theorem Ty.beq_eq (t u : Ty) : t.beq u = (t.kind == u.kind && Ty.beqs t.args u.args) := by cases t; cases u; rw [Ty.beq]
theorem Ty.beq_iff (t : Ty) : ∀ u, t.beq u = true ↔ t = u := by
  induction t using Ty.ind with | h k xs ih => ?_
  rintro ⟨l, ys⟩
  rw [Ty.beq, Bool.and_eq_true, beq_iff_eq, Ty.beqs_iff]
  constructor
  · rintro ⟨rfl, hl, h⟩
    congr 1
    refine List.ext_getElem hl fun i h1 h2 => ?_
    exact (ih _ (List.getElem_mem h1) _).1 (h i h1 h2)
  · intro h
    injection h with h1 h2
    subst h1 h2
    exact ⟨rfl, rfl, fun i h1 _ => (ih _ (List.getElem_mem h1) _).2 rfl⟩
theorem Ty.beq_self (t : Ty) : t.beq t = true := (Ty.beq_iff t t).2 rfl

end Go.Proofs.YtklifieahcoljaaGreat
