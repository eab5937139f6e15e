/-
  The law FnExactStatusName: the program's StatusName and the reference's return the same for every argument. No condition.
-/
import Derived.Test.YtmlpjadifjdmmaaSmall
namespace Go.Proofs.Ytmlpjadifjdmmaa.fnExactStatusName
open Go.RowKit Go.ChangeShapes Go.WideShapes
set_option linter.unusedVariables false
set_option linter.unusedSimpArgs false

theorem walk (a : Int) (w : World) (h : (Lit.int .i64 a).wf = true) : Calls Try.prog 7 #[.int .i64 a] w fun e w' => e = .returned (.bool true) ∧ Below w.heap.size w w' := by
  go_enter Try.func7, Try.ntmps7
  go_wp2_with (first
    | (go_at_call 15; (with_reducible refine (specStatusName_any _ _).mono ?_); rintro e w1 ⟨rfl, b1⟩)
    | (go_at_call 16; (with_reducible refine (implStatusName_any _ _).mono ?_); rintro e w2 ⟨rfl, b2⟩))
  go_ret
  exact ⟨by simp, below_next b1 b2⟩
end Go.Proofs.Ytmlpjadifjdmmaa.fnExactStatusName
