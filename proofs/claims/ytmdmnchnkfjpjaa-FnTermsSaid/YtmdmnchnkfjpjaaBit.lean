/-
  Contracts of the functions that make 1 or 0 of a truth value.
-/
import Derived.Test.YtmdmnchnkfjpjaaNum
namespace Go.Proofs.Ytmdmnchnkfjpjaa
open Go.RowKit
set_option linter.unusedVariables false
set_option linter.unusedSimpArgs false

/-- 1 or 0. -/
def bitI (b : Bool) : Int := if b then 1 else 0
theorem isNumber_is {n : Int} {b : Bool} (h : inB n 0 10006 = b) (w : World) : Calls Try.prog 56 #[.int .i64 n] w fun e w' => e = .returned (.bool b) ∧ w = w' := by
  go_enter Try.func56, Try.ntmps56
  go_wp2_with (go_at_call 57; (with_reducible refine (within_is h _).mono ?_); rintro e w1 ⟨rfl, rfl⟩)
  go_ret
  exact ⟨rfl, rfl⟩
end Go.Proofs.Ytmdmnchnkfjpjaa
