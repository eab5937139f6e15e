/-
  Plain functions on lists and trees: the first element that a test takes; a test of all nodes.
-/
import Derived.Test.YtklifieahcoljaaGreatTree
namespace Go.Proofs.YtklifieahcoljaaGreat
/-! ### The first element that a test takes -/
def fIdx {α : Type} (q : α → Bool) (xs : List α) : Int := match xs.findIdx? q with
  | some i => (i : Int)
  | none => -1
theorem fIdx_at {α : Type} {q : α → Bool} {xs : List α} {k : Nat} (hk : k < xs.length) (hq : q xs[k] = true) (h : ∀ i (hi : i < xs.length), i < k → q xs[i] = false) : fIdx q xs = (k : Int) := by
  have e : xs.findIdx? q = some k := List.findIdx?_eq_some_iff_getElem.2 ⟨hk, hq, fun i hi => by rw [h i (by omega) hi]; simp⟩
  simp [fIdx, e]
theorem fIdx_none {α : Type} {q : α → Bool} {xs : List α} (h : ∀ i (hi : i < xs.length), q xs[i] = false) : fIdx q xs = -1 := by
  have e : xs.findIdx? q = none := List.findIdx?_eq_none_iff.2 fun x hx => by
    obtain ⟨i, hi, rfl⟩ := List.getElem_of_mem hx
    exact h i hi
  simp [fIdx, e]
theorem fIdx_ge {α : Type} (q : α → Bool) (xs : List α) : decide (fIdx q xs ≥ 0) = xs.any q := by
  rw [Bool.eq_iff_iff, decide_eq_true_eq]
  cases e : xs.findIdx? q with
  | none =>
    have h := List.findIdx?_eq_none_iff.1 e
    simp only [fIdx, e]
    constructor
    · intro h0; omega
    · intro h0
      obtain ⟨x, hx, hq⟩ := List.any_eq_true.1 h0
      rw [h x hx] at hq
      cases hq
  | some i =>
    obtain ⟨hi, hq, _⟩ := List.findIdx?_eq_some_iff_getElem.1 e
    simp only [fIdx, e]
    constructor
    · intro _
      exact List.any_eq_true.2 ⟨_, List.getElem_mem hi, hq⟩
    · intro _
      omega
/-! ### A test of all nodes -/
mutual
def Ty.all (p : Ty → Bool) : Ty → Bool
  | ⟨k, xs⟩ => p ⟨k, xs⟩ && Ty.alls p xs
def Ty.alls (p : Ty → Bool) : List Ty → Bool
  | [] => true
  | t :: ts => t.all p && Ty.alls p ts
end
mutual
def Tm.all (p : Tm → Bool) : Tm → Bool
  | ⟨k, nm, ot, n, ty, re, xs⟩ => p ⟨k, nm, ot, n, ty, re, xs⟩ && Tm.alls p xs
def Tm.alls (p : Tm → Bool) : List Tm → Bool
  | [] => true
  | t :: ts => t.all p && Tm.alls p ts
end
theorem Ty.alls_eq (p : Ty → Bool) (xs : List Ty) : Ty.alls p xs = xs.all (Ty.all p) := by
  induction xs with
  | nil => rfl
  | cons x xs ih => rw [Ty.alls, ih]; rfl
theorem Tm.alls_eq (p : Tm → Bool) (xs : List Tm) : Tm.alls p xs = xs.all (Tm.all p) := by
  induction xs with
  | nil => rfl
  | cons x xs ih => rw [Tm.alls, ih]; rfl
theorem Ty.all_eq (p : Ty → Bool) (t : Ty) : t.all p = (p t && t.args.all (Ty.all p)) := by
  cases t
  rw [Ty.all, Ty.alls_eq]
theorem Tm.all_eq (p : Tm → Bool) (t : Tm) : t.all p = (p t && t.args.all (Tm.all p)) := by
  cases t
  rw [Tm.all, Tm.alls_eq]
theorem all_not_any {α : Type} (p : α → Bool) (xs : List α) : (!xs.any fun x => !p x) = xs.all p := by
  rw [Bool.eq_iff_iff]
  simp

theorem all_no {α : Type} {p : α → Bool} {xs : List α} {i : Nat} (hi : i < xs.length) (h : p xs[i] = false) : xs.all p = false := by
  rw [List.all_eq_false]
  exact ⟨_, List.getElem_mem hi, by simp [h]⟩
theorem all_yes {α : Type} {p : α → Bool} {xs : List α} (h : ∀ i (hi : i < xs.length), p xs[i] = true) : xs.all p = true := by
  rw [List.all_eq_true]
  intro x hx
  obtain ⟨i, hi, rfl⟩ := List.getElem_of_mem hx
  exact h i hi
theorem any_yes {α : Type} {p : α → Bool} {xs : List α} {i : Nat} (hi : i < xs.length) (h : p xs[i] = true) : xs.any p = true :=
  List.any_eq_true.2 ⟨_, List.getElem_mem hi, h⟩
theorem any_no {α : Type} {p : α → Bool} {xs : List α} (h : ∀ i (hi : i < xs.length), p xs[i] = false) : xs.any p = false := by
  rw [List.any_eq_false]
  intro x hx
  obtain ⟨i, hi, rfl⟩ := List.getElem_of_mem hx
  simp [h i hi]
end Go.Proofs.YtklifieahcoljaaGreat
