/-
  Contracts of the small functions on numbers, in both texts.
-/
import Derived.Test.YtfomakiljojabaaRep
import Derived.Test.YtfomakiljojabaaRows
namespace Go.Proofs.Ytfomakiljojabaa
open Go.RowKit
set_option linter.unusedVariables false

theorem l1Max_any (a b : Int) (w : World) :
    Calls Try.prog 39 #[.int .i64 a, .int .i64 b] w fun e w' => e = .returned (.int .i64 (max a b)) ∧ w = w' := by
  go_enter Try.func39, Try.ntmps39
  go_wp2
  all_goals go_ret
  · exact ⟨ret_int (by omega), rfl⟩
  · exact ⟨ret_int (by omega), rfl⟩
end Go.Proofs.Ytfomakiljojabaa
