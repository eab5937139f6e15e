/-
  From the form's reading of an argument that is a slice of strings to a plain list.
-/
import Derived.Test.YtcbgapncmjjmeaaDoorStr
import Derived.Test.YtcbgapncmjjmeaaDoorOpen
namespace Go.Proofs.YtcbgapncmjjmeaaDoor
open Go.RowKit Go.ChangeShapes Go.WideShapes Go.Deep
set_option linter.unusedVariables false

section
variable {H : Type} {enc : TypeId × Value → H} {P : Program} {w : World} {base : Nat} {spare : Nat → Bool} {held : Bool}
theorem open_strs {t e : TypeId} (ht : P.underlying t = some (.slice e)) (he : P.underlying e = some .string) (hc : P.cellsOf e = 1) (fuel : Nat) {a : Option Addr} {n cap : Nat} {x : DataW H × List MemPlace}
    (h : DataW.trod enc P w base spare held fuel t [.slice a n cap] = some x) : ∃ xs, Rss w xs a n cap := by
  rcases open_strings ht he hc h with ⟨h0, _⟩ | ⟨a', len, cap', ss, h0, _, hl, hm, hz, _, hcell, hsz⟩
  · simp only [List.cons.injEq, Value.slice.injEq, and_true] at h0
    obtain ⟨rfl, rfl, rfl⟩ := h0
    exact ⟨[], rfl, Nat.le_refl _, by simp, by simp, .inl rfl⟩
  · simp only [List.cons.injEq, Value.slice.injEq, and_true] at h0
    obtain ⟨rfl, rfl, rfl⟩ := h0
    have hge : n ≤ ss.length := by rw [hz]; split <;> omega
    have hlen : (ss.take n).length = n := by rw [List.length_take]; omega
    have hlt : ∀ x ∈ ss.take n, x.size ≤ 9223372036854775807 := fun x hx => hsz x (List.mem_of_mem_take hx)
    refine ⟨ss.take n, hlen.symm, hl, hm, hlt, ?_⟩
    by_cases hn : ss.take n = []
    · exact .inl hn
    · have h0 : 0 < n := by
        rcases Nat.eq_zero_or_pos n with rfl | h
        · simp at hn
        · exact h
      obtain ⟨b, off, spot⟩ := a'
      have hspot : spot = none := by simpa [Addr.add] using World.cell?_spot (hcell 0 (by omega))
      subst hspot
      refine .inr ⟨hn, b, off, rfl, fun i hi => ?_⟩
      have hi' : i < ss.length := by omega
      have := hcell i hi'
      rw [List.getD_eq_getElem?_getD, List.getElem?_eq_getElem hi'] at this
      rw [List.getElem_take]
      rw [add_plain] at this
      exact this
end
end Go.Proofs.YtcbgapncmjjmeaaDoor
