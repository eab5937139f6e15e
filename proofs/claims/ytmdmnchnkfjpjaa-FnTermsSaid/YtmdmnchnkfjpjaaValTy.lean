/-
  The walk of the function literal of the program's IsValidType: whether a node has the form of its kind.
-/
import Derived.Test.YtmdmnchnkfjpjaaValTy1
import Derived.Test.YtmdmnchnkfjpjaaValTy2
import Derived.LoopTactic
import Derived.Outline
import Derived.Deep.RegionHeld3
import Derived.Deep.RegionWith
namespace Go.Proofs.Ytmdmnchnkfjpjaa
open Go.RowKit
set_option maxRecDepth 100000
set_option linter.unusedVariables false
set_option linter.unusedSimpArgs false

set_option maxHeartbeats 800000 in
theorem validLit_any (t : Ty) (c0 c1 : Value) (w : World) (h : Rd w t c0 c1) :
    Calls Try.prog 69 #[.agg #[c0, c1]] w fun e w' => e = .returned (.bool t.formed) ∧ Below w.heap.size w w' := by
  obtain ⟨k, xs⟩ := t
  obtain ⟨a, n, cap, rfl, rfl, hk, hr⟩ := h.shape
  have hx : n = xs.length := hr.1
  have HX := hide hx
  clear hx
  simp only at *
  by_cases hin : inB k 1 4 = true
  · have h4 : k = 1 ∨ k = 2 ∨ k = 3 ∨ k = 4 := by
      have := inB_iff.1 hin
      omega
    clear hin
    rcases h4 with rfl | rfl | rfl | rfl
    · exact validLit_1 xs a n cap w HX
    · exact validLit_2 xs a n cap w HX
    · exact validLit_3 xs a n cap w HX
    · exact validLit_4 xs a n cap w HX
  · have hin' : inB k 1 4 = false := by simpa using hin
    clear hin
    have HI := hide hin'
    clear hin'
    go_enter Try.func69, Try.ntmps69
    go_wp2_with fail
    go_quiet ((go_at_call 57; exact quiet_left (within_is HI.out _)))
    go_wp2_with fail
    go_ret
    refine ⟨ret_bool ?_, (by repeat (first | exact Below.refl _ _ | assumption | refine Below.drew ?_ | refine below_drewN ?_ _ | refine Below.alloc ?_ (by first | omega | (simp; done) | (simp; omega)) _ | refine Below.setCell ?_ (by first | omega | (simp; done) | (simp; omega)) _))⟩
    have h1 : ¬ (1 ≤ k ∧ k ≤ 4) := fun h => by have := inB_iff.2 h; rw [HI.out] at this; cases this
    have e1 : (k == 1) = false := beq_eq_false_iff_ne.2 (by omega)
    have e2 : (k == 2) = false := beq_eq_false_iff_ne.2 (by omega)
    have e3 : (k == 3) = false := beq_eq_false_iff_ne.2 (by omega)
    have e4 : (k == 4) = false := beq_eq_false_iff_ne.2 (by omega)
    simp [Ty.formed, e1, e2, e3, e4]
end Go.Proofs.Ytmdmnchnkfjpjaa
