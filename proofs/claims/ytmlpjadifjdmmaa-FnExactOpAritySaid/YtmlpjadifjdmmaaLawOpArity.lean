/-
  The law FnExactOpArity: the program's OpArity and the reference's return the same for every argument. No condition.
-/
import Derived.Test.YtmlpjadifjdmmaaSmall
namespace Go.Proofs.Ytmlpjadifjdmmaa.fnExactOpArity
open Go.RowKit Go.ChangeShapes Go.WideShapes
set_option linter.unusedVariables false
set_option linter.unusedSimpArgs false

theorem walk (s : ByteArray) (w : World) (h : s.size ≤ maxLen) : Calls Try.prog 8 #[.string s] w fun e w' => e = .returned (.bool true) ∧ Below w.heap.size w w' := by
  go_enter Try.func8, Try.ntmps8
  go_wp2_with (first
    | (go_at_call 17; (with_reducible refine (specOpArity_any _ _).mono ?_); rintro e w1 ⟨rfl, rfl⟩)
    | (go_at_call 18; (with_reducible refine (implOpArity_any _ _).mono ?_); rintro e w2 ⟨rfl, rfl⟩))
  all_goals go_ret
  all_goals exact ⟨by simp, Below.refl _ _⟩
end Go.Proofs.Ytmlpjadifjdmmaa.fnExactOpArity
