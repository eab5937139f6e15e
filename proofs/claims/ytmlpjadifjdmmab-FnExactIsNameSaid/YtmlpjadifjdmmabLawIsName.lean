/-
  The law FnExactIsName: the program's IsName and the reference's return the same for every argument. No condition.
-/
import Derived.Test.YtmlpjadifjdmmabName
namespace Go.Proofs.Ytmlpjadifjdmmab.fnExactIsName
open Go.RowKit Go.ChangeShapes Go.WideShapes
set_option linter.unusedVariables false
set_option linter.unusedSimpArgs false

theorem walk (s : ByteArray) (w : World) (h : s.size ≤ maxLen) : Calls Try.prog 3 #[.string s] w fun e w' => e = .returned (.bool true) ∧ Below w.heap.size w w' := by
  by_cases hs : s.size ≤ 1048576
  · go_enter Try.func3, Try.ntmps3
    go_wp2_with (first
      | (go_at_call 9; (with_reducible refine (specIsName_any s _ hs).mono ?_); rintro e w1 ⟨rfl, b1⟩)
      | (go_at_call 10; (with_reducible refine (implIsName_any s _ hs).mono ?_); rintro e w2 ⟨rfl, b2⟩))
    go_ret
    exact ⟨by simp, below_next b1 b2⟩
  · go_enter Try.func3, Try.ntmps3
    go_wp2_with fail
    go_ret
    exact ⟨rfl, Below.refl _ _⟩
end Go.Proofs.Ytmlpjadifjdmmab.fnExactIsName
