/-
  The walks of IsBase in both texts.
-/
import Derived.Test.YtklifieahcoljaaGreatNum
namespace Go.Proofs.YtklifieahcoljaaGreat
open Go.RowKit
set_option linter.unusedVariables false
set_option linter.unusedSimpArgs false

/-- The type of numbers or of booleans. -/
def Ty.base (t : Ty) : Bool := inB t.kind 1 2 && t.args.length == 0
theorem base_in {k : Int} {xs : List Ty} {n : Nat} (h : inB k 1 2 = true) (hn : n = xs.length) : ((n : Int) == 0) = Ty.base ⟨k, xs⟩ := by
  subst hn
  rw [Bool.eq_iff_iff]
  simp [Ty.base, h]
theorem base_out {k : Int} {xs : List Ty} (h : inB k 1 2 = false) : Ty.base ⟨k, xs⟩ = false := by simp [Ty.base, h]

set_option maxHeartbeats 400000 in
theorem specIsBase_any (t : Ty) (c0 c1 : Value) (w : World) (h : Rd w t c0 c1) :
    Calls Tryz.prog 75 #[.agg #[c0, c1]] w fun e w' => e = .returned (.bool t.base) ∧ Below w.heap.size w w' := by
  obtain ⟨k, xs⟩ := t
  obtain ⟨a, n, cap, rfl, rfl, hk, hr⟩ := h.shape
  have hx : n = xs.length := hr.1
  have HX := hide hx
  clear hx
  by_cases h1 : k = 1
  · subst h1
    go_enter Tryz.func75, Tryz.ntmps75
    go_wp2
    go_ret
    exact ⟨ret_bool (base_in (by decide) HX.out), (by repeat (first | exact Below.refl _ _ | assumption | refine Below.drew ?_ | refine below_drewN ?_ _ | refine Below.alloc ?_ (by first | omega | (simp; done) | (simp; omega)) _ | refine Below.setCell ?_ (by first | omega | (simp; done) | (simp; omega)) _))⟩
  · have f1 : (k == 1) = false := beq_eq_false_iff_ne.2 h1
    by_cases h2 : k = 2
    · subst h2
      go_enter Tryz.func75, Tryz.ntmps75
      go_wp2
      go_ret
      exact ⟨ret_bool (base_in (by decide) HX.out), (by repeat (first | exact Below.refl _ _ | assumption | refine Below.drew ?_ | refine below_drewN ?_ _ | refine Below.alloc ?_ (by first | omega | (simp; done) | (simp; omega)) _ | refine Below.setCell ?_ (by first | omega | (simp; done) | (simp; omega)) _))⟩
    · have f2 : (k == 2) = false := beq_eq_false_iff_ne.2 h2
      have hno := hide (show inB k 1 2 = false from by
        rw [← Bool.not_eq_true, inB_iff]
        omega)
      go_enter Tryz.func75, Tryz.ntmps75
      go_wp2
      go_ret
      exact ⟨ret_bool (base_out hno.out).symm, (by repeat (first | exact Below.refl _ _ | assumption | refine Below.drew ?_ | refine below_drewN ?_ _ | refine Below.alloc ?_ (by first | omega | (simp; done) | (simp; omega)) _ | refine Below.setCell ?_ (by first | omega | (simp; done) | (simp; omega)) _))⟩

theorem specIsBase_law (t : Ty) (c0 c1 : Value) (w : World) (h : Rd w t c0 c1) (hz : Ty.sizes t.args ≤ 1048576) :
    Calls Tryz.prog 75 #[.agg #[c0, c1]] w fun e w' => e = .returned (.bool t.base) ∧ Below w.heap.size w w' := specIsBase_any t c0 c1 w h
end Go.Proofs.YtklifieahcoljaaGreat
