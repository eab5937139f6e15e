/-
  The law FnExactConstants: the program's Constants and the reference's return the same for every argument. No condition.
-/
import Derived.Test.YtmlpjadifjdmmaaSmall
namespace Go.Proofs.Ytmlpjadifjdmmaa.fnExactConstants
open Go.RowKit Go.ChangeShapes Go.WideShapes
set_option linter.unusedVariables false
set_option linter.unusedSimpArgs false

theorem walk (w : World) : Calls Try.prog 3 #[] w fun e w' => e = .returned (.bool true) ∧ Below w.heap.size w w' := by
  go_enter Try.func3, Try.ntmps3
  go_wp2
  go_ret
  exact ⟨rfl, Below.refl _ _⟩
end Go.Proofs.Ytmlpjadifjdmmaa.fnExactConstants
