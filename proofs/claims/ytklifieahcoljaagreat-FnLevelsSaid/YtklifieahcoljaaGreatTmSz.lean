/-
  The walks of szTerm and szTermS: they take from 'left' what a term weighs, -1 where that is more.
-/
import Derived.Test.YtklifieahcoljaaGreatTm
import Derived.Test.YtklifieahcoljaaGreatSz
namespace Go.Proofs.YtklifieahcoljaaGreat
open Go.RowKit
set_option linter.unusedVariables false
set_option linter.unusedSimpArgs false

mutual
/-- What szTerm counts. -/
def Tm.wt : Tm → Nat
  | ⟨_, nm, ot, _, ty, re, xs⟩ => nm.size + ot.size + Ty.sizes ty.args + Ty.sizes re.args + Tm.wts xs
def Tm.wts : List Tm → Nat
  | [] => 0
  | t :: ts => 1 + t.wt + Tm.wts ts
end
theorem Tm.wt_eq (t : Tm) : t.wt = t.name.size + t.other.size + Ty.sizes t.type.args + Ty.sizes t.res.args + Tm.wts t.args := by cases t; rw [Tm.wt]
theorem Tm.wts_append (xs ys : List Tm) : Tm.wts (xs ++ ys) = Tm.wts xs + Tm.wts ys := by
  induction xs with
  | nil => simp [Tm.wts]
  | cons a xs ih => simp [Tm.wts, ih]; omega
theorem Tm.length_le_wts (xs : List Tm) : xs.length ≤ Tm.wts xs := by
  induction xs with
  | nil => simp
  | cons x xs ih => simp [Tm.wts]; omega
theorem Tm.wts_take (xs : List Tm) (k : Nat) (h : k < xs.length) : Tm.wts (xs.take (k + 1)) = Tm.wts (xs.take k) + (1 + xs[k].wt) := by
  rw [take_snoc xs k h, Tm.wts_append]
  simp [Tm.wts]
theorem Tm.wts_take_le (xs : List Tm) (k : Nat) : Tm.wts (xs.take k) + (xs.length - k) ≤ Tm.wts xs := by
  have h := Tm.wts_append (xs.take k) (xs.drop k)
  rw [List.take_append_drop] at h
  have := Tm.length_le_wts (xs.drop k)
  simp at this
  omega
theorem Tm.sizes_le_wts (xs : List Tm) (h : ∀ t ∈ xs, Tm.sizes t.args ≤ t.wt) : Tm.sizes xs ≤ Tm.wts xs := by
  induction xs with
  | nil => simp [Tm.sizes]
  | cons x xs ih =>
    have h1 := h x (by simp)
    have h2 := ih fun t ht => h t (by simp [ht])
    have h3 := x.size_eq
    simp only [Tm.sizes, Tm.wts]
    omega
theorem Tm.args_le_wt (t : Tm) : Tm.sizes t.args ≤ t.wt := by
  induction t using Tm.ind' with | h t ih => ?_
  have := Tm.sizes_le_wts t.args ih
  have := t.wt_eq
  omega

end Go.Proofs.YtklifieahcoljaaGreat
