/-
  The law FnExactRuleName: the program's RuleName and the reference's return the same for every argument. No condition.
-/
import Derived.Test.YtmlpjadifjdmmaaSmall
namespace Go.Proofs.Ytmlpjadifjdmmaa.fnExactRuleName
open Go.RowKit Go.ChangeShapes Go.WideShapes
set_option linter.unusedVariables false
set_option linter.unusedSimpArgs false

theorem walk (a : Int) (w : World) (h : (Lit.int .i64 a).wf = true) : Calls Try.prog 6 #[.int .i64 a] w fun e w' => e = .returned (.bool true) ∧ Below w.heap.size w w' := by
  go_enter Try.func6, Try.ntmps6
  go_wp2_with (first
    | (go_at_call 13; (with_reducible refine (specRuleName_any _ _).mono ?_); rintro e w1 ⟨rfl, b1⟩)
    | (go_at_call 14; (with_reducible refine (implRuleName_any _ _).mono ?_); rintro e w2 ⟨rfl, b2⟩))
  go_ret
  exact ⟨by simp, below_next b1 b2⟩
end Go.Proofs.Ytmlpjadifjdmmaa.fnExactRuleName
