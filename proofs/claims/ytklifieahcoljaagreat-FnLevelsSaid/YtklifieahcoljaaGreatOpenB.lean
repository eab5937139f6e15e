/-
  From the form's reading of an argument that is a slice of bytes to what a draw needs of it.
-/
import Derived.Test.YtklifieahcoljaaGreatDraw
import Derived.Test.YtklifieahcoljaaGreatOpen
import Derived.OpenShut
namespace Go.Proofs.YtklifieahcoljaaGreat
open Go.RowKit Go.ChangeShapes Go.WideShapes Go.Deep
set_option linter.unusedVariables false

section
variable {H : Type} {enc : TypeId × Value → H} {P : Program} {w : World} {base : Nat} {spare : Nat → Bool} {held : Bool}
theorem open_bytesR {t e : TypeId} (ht : P.underlying t = some (.slice e)) (he : P.underlying e = some (.int .u8)) (hc : P.cellsOf e = 1) (fuel : Nat) {a : Option Addr} {n cap : Nat} {x : DataW H × List MemPlace}
    (h : DataW.trod enc P w base spare held fuel t [.slice a n cap] = some x) : Rbs w a n cap := by
  rcases open_ints ht he hc h with ⟨h0, _⟩ | ⟨a', len, cap', zs, h0, _, hl, hm, hz, _, hcell, hwz⟩
  · simp only [List.cons.injEq, Value.slice.injEq, and_true] at h0
    obtain ⟨rfl, rfl, rfl⟩ := h0
    exact ⟨Nat.le_refl _, by simp, .inl rfl⟩
  · simp only [List.cons.injEq, Value.slice.injEq, and_true] at h0
    obtain ⟨rfl, rfl, rfl⟩ := h0
    have hge : n ≤ zs.length := by rw [hz]; split <;> omega
    refine ⟨hl, hm, ?_⟩
    rcases Nat.eq_zero_or_pos n with h0 | h0
    · exact .inl h0
    · obtain ⟨b, off, spot⟩ := a'
      have hspot : spot = none := by simpa [Addr.add] using World.cell?_spot (hcell 0 (by omega))
      subst hspot
      refine .inr ⟨by omega, b, off, rfl, fun j hj => ?_⟩
      have hb := range_u8 hwz j
      rw [← List.getD_eq_getElem?_getD] at hb
      have := hcell j (by omega)
      rw [add_plain] at this
      exact ⟨zs.getD j 0, hb.1, hb.2, this⟩
end
end Go.Proofs.YtklifieahcoljaaGreat
