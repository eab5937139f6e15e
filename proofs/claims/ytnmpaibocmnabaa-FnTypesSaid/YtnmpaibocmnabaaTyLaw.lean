/-
  Plain laws of types: an erased type is erased; an erased valid type is plain; a plain type stays as it is.
-/
import Derived.Test.YtnmpaibocmnabaaPlainTy
import Derived.Test.YtnmpaibocmnabaaHeld
namespace Go.Proofs.Ytnmpaibocmnabaa
set_option linter.unusedVariables false
set_option linter.unusedSimpArgs false

theorem Ty.erase_code {k : Int} {xs : List Ty} (h : k = 4 ∧ xs.length = 1) : ∃ x, xs = [x] ∧ Ty.erase ⟨k, xs⟩ = x.erase := by
  obtain ⟨rfl, h1⟩ := h
  match xs, h1 with
  | [x], _ => exact ⟨x, rfl, by simp [Ty.erase, Ty.erases]⟩
theorem Ty.erase_other {k : Int} {xs : List Ty} (h : ¬ (k = 4 ∧ xs.length = 1)) : Ty.erase ⟨k, xs⟩ = ⟨k, xs.map Ty.erase⟩ := by
  rw [Ty.erase, if_neg h, Ty.erases_eq]
theorem Ty.erase_erase (t : Ty) : t.erase.erase = t.erase := by
  induction t using Ty.ind with | h k xs ih => ?_
  by_cases hc : k = 4 ∧ xs.length = 1
  · obtain ⟨x, rfl, he⟩ := Ty.erase_code hc
    rw [he]
    exact ih x (by simp)
  · rw [Ty.erase_other hc, Ty.erase_other (by simpa using hc), List.map_map]
    congr 1
    exact List.map_congr_left fun x hx => ih x hx
theorem Ty.plain_erase (t : Ty) : t.all Ty.nocode = true → t.erase = t := by
  induction t using Ty.ind with | h k xs ih => ?_
  intro h
  rw [Ty.all_eq, Bool.and_eq_true, List.all_eq_true] at h
  have hk : k ≠ 4 := by simpa [Ty.nocode] using h.1
  rw [Ty.erase_other (fun e => hk e.1)]
  congr 1
  conv => rhs; rw [← List.map_id xs]
  exact List.map_congr_left fun x hx => ih x hx (h.2 x hx)
theorem Ty.depths_le_of {xs ys : List Ty} (h : ∀ i (hi : i < xs.length), ∃ (hj : i < ys.length), xs[i].depth ≤ ys[i].depth) : Ty.depths xs ≤ Ty.depths ys := by
  induction xs generalizing ys with
  | nil => simp [Ty.depths]
  | cons x xs ihx =>
    obtain ⟨h0, h1⟩ := h 0 (by simp)
    match ys, h0 with
    | y :: ys, _ =>
      have h2 := ihx (ys := ys) fun i hi => by
        obtain ⟨hj, hh⟩ := h (i + 1) (by simpa using hi)
        exact ⟨by simpa using hj, by simpa using hh⟩
      simp only [Ty.depths, List.getElem_cons_zero] at h1 ⊢
      omega
theorem Ty.erase_depth (t : Ty) : t.erase.depth ≤ t.depth := by
  induction t using Ty.ind with | h k xs ih => ?_
  by_cases hc : k = 4 ∧ xs.length = 1
  · obtain ⟨x, rfl, he⟩ := Ty.erase_code hc
    rw [he]
    have := ih x (by simp)
    simp only [Ty.depth, Ty.depths]
    omega
  · rw [Ty.erase_other hc]
    simp only [Ty.depth]
    have : Ty.depths (xs.map Ty.erase) ≤ Ty.depths xs := Ty.depths_le_of fun i hi => by
      have hi' : i < xs.length := by simpa using hi
      exact ⟨hi', by rw [List.getElem_map]; exact ih _ (List.getElem_mem _)⟩
    omega
theorem Ty.erase_formed (t : Ty) : t.all Ty.formed = true → t.erase.all Ty.formed = true ∧ t.erase.all Ty.nocode = true := by
  induction t using Ty.ind with | h k xs ih => ?_
  intro h
  rw [Ty.all_eq, Bool.and_eq_true, List.all_eq_true] at h
  obtain ⟨hf, hx⟩ := h
  by_cases hc : k = 4 ∧ xs.length = 1
  · obtain ⟨x, rfl, he⟩ := Ty.erase_code hc
    rw [he]
    exact ih x (by simp) (hx x (by simp))
  · rw [Ty.erase_other hc, Ty.all_eq, Ty.all_eq]
    have hk : k ≠ 4 := by
      intro e
      subst e
      simp [Ty.formed] at hf
      exact hc ⟨rfl, hf⟩
    have e1 : Ty.formed ⟨k, xs.map Ty.erase⟩ = Ty.formed ⟨k, xs⟩ := by simp [Ty.formed]
    rw [e1, hf, show Ty.nocode ⟨k, xs.map Ty.erase⟩ = true by simp [Ty.nocode, hk], Bool.true_and]
    simp only [Bool.true_and, List.all_eq_true]
    constructor
    · intro y hy
      obtain ⟨x, hx', rfl⟩ := List.mem_map.1 hy
      exact (ih x hx' (hx x hx')).1
    · intro y hy
      obtain ⟨x, hx', rfl⟩ := List.mem_map.1 hy
      exact (ih x hx' (hx x hx')).2
theorem Ty.erase_valid (t : Ty) (h : t.valid = true) : t.erase.valid = true ∧ t.erase.all Ty.nocode = true := by
  simp only [Ty.valid, Bool.and_eq_true, decide_eq_true_eq] at h ⊢
  obtain ⟨h1, h2, h3⟩ := h
  have e1 := t.erase_size
  have e2 := t.erase_depth
  obtain ⟨f1, f2⟩ := t.erase_formed h3
  exact ⟨⟨by omega, by omega, f1⟩, f2⟩
end Go.Proofs.Ytnmpaibocmnabaa
