/-
  The law FnExactKindName: the program's KindName and the reference's return the same for every argument. No condition.
-/
import Derived.Test.YtmlpjadifjdmmaaSmall
namespace Go.Proofs.Ytmlpjadifjdmmaa.fnExactKindName
open Go.RowKit Go.ChangeShapes Go.WideShapes
set_option linter.unusedVariables false
set_option linter.unusedSimpArgs false

theorem walk (a : Int) (w : World) (h : (Lit.int .i64 a).wf = true) : Calls Try.prog 5 #[.int .i64 a] w fun e w' => e = .returned (.bool true) ∧ Below w.heap.size w w' := by
  go_enter Try.func5, Try.ntmps5
  go_wp2_with (first
    | (go_at_call 11; (with_reducible refine (specKindName_any _ _).mono ?_); rintro e w1 ⟨rfl, b1⟩)
    | (go_at_call 12; (with_reducible refine (implKindName_any _ _).mono ?_); rintro e w2 ⟨rfl, b2⟩))
  go_ret
  exact ⟨by simp, below_next b1 b2⟩
end Go.Proofs.Ytmlpjadifjdmmaa.fnExactKindName
