/-
  The law FnExactAreParams: the program's AreParams and the reference's return the same for every argument. No condition.
-/
import Derived.Test.YtnmpaibocmnabaaParams
import Derived.Test.YtnmpaibocmnabaaRecTo
import Derived.Test.YtnmpaibocmnabaaRecEq
import Derived.Test.YtnmpaibocmnabaaRecSz
namespace Go.Proofs.Ytnmpaibocmnabaa.fnExactAreParams
open Go.RowKit Go.ChangeShapes Go.WideShapes
set_option maxRecDepth 100000
set_option linter.unusedVariables false
set_option linter.unusedSimpArgs false

set_option maxHeartbeats 800000 in
theorem walk (xs : List (Rc Bool)) (a : Option Addr) (n cap : Nat) (w : World) (h : Rcs w xs a n cap) :
    Calls Try.prog 3 #[.slice a n cap] w fun e w' => e = .returned (.bool true) ∧ Below w.heap.size w w' := by
  have C := szParamS_any xs a n cap 1048576 w h (by omega) (by omega)
  by_cases hz : Rcs.wt xs ≤ 1048576
  · have hp : lessN (Rcs.wt xs) 1048576 = 1048576 - Rcs.wt xs := lessN_pos (by omega)
    have hok := hide h.rcok
    have hlm : xs.length ≤ maxLen := by unfold Rcs.wt at hz; unfold maxLen; omega
    rw [hp] at C
    replace C := hide C
    go_enter Try.func3, Try.ntmps3
    go_wp2_with (go_at_call 7; (with_reducible refine C.out.mono ?_); rintro e w0 ⟨rfl, b0⟩)
    have h0 := h.below b0
    refine (toParamS_any xs _ _ _ _ h0 hz).mono ?_
    rintro e w1 ⟨g1, F1, rfl, o1, b1⟩
    have r1 := o1.rcs hok.out (Nat.le_refl _) hlm
    have h1 := h0.below b1
    clear o1
    go_wp2_with fail
    refine (specAreParams_any xs _ _ _ _ r1 hz).mono ?_
    rintro e w2 ⟨rfl, b2⟩
    have h2 := h1.below b2
    go_wp2_with fail
    refine (toParamS_any xs _ _ _ _ h2 hz).mono ?_
    rintro e w3 ⟨g3, F3, rfl, o3, b3⟩
    have r3 := o3.rcs hok.out (Nat.le_refl _) hlm
    have h3 := h2.below b3
    clear o3
    go_wp2_with fail
    refine (implAreParams_any xs _ _ _ _ r3 hz).mono ?_
    rintro e w4 ⟨rfl, b4⟩
    have r4 := r3.below b4
    have h4 := h3.below b4
    go_wp2_with fail
    refine (toParamS_any xs _ _ _ _ h4 hz).mono ?_
    rintro e w5 ⟨g5, F5, rfl, o5, b5⟩
    have r5 := o5.rcs hok.out (Nat.le_refl _) hlm
    clear o5
    go_wp2_with fail
    refine (eqParamS_any xs _ _ _ _ _ _ (r4.below b5) r5).mono ?_
    rintro e w6 ⟨rfl, b6⟩
    go_wp2_with fail
    go_ret
    exact ⟨rfl, below_next (below_next (below_next (below_next (below_next (below_next b0 b1) b2) b3) b4) b5) b6⟩
  · have hp : lessN (Rcs.wt xs) 1048576 = -1 := lessN_neg (by omega)
    rw [hp] at C
    replace C := hide C
    go_enter Try.func3, Try.ntmps3
    go_wp2_with (go_at_call 7; (with_reducible refine C.out.mono ?_); rintro e w0 ⟨rfl, b0⟩)
    all_goals go_ret
    all_goals exact ⟨rfl, b0⟩
end Go.Proofs.Ytnmpaibocmnabaa.fnExactAreParams
