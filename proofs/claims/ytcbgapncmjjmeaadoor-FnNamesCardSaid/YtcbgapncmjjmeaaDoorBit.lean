/-
  Contracts of the functions that make 1 or 0 of a truth value.
-/
import Derived.Test.YtcbgapncmjjmeaaDoorNum
namespace Go.Proofs.YtcbgapncmjjmeaaDoor
open Go.RowKit
set_option linter.unusedVariables false
set_option linter.unusedSimpArgs false

/-- 1 or 0. -/
def bitI (b : Bool) : Int := if b then 1 else 0
theorem specl1Bit_any (b : Bool) (w : World) : Calls Tryd.prog 74 #[.bool b] w fun e w' => e = .returned (.int .i64 (bitI b)) ∧ w = w' := by
  cases b
  all_goals
    go_enter Tryd.func74, Tryd.ntmps74
    go_wp2
    go_ret
    exact ⟨rfl, rfl⟩
theorem implbit_any (b : Bool) (w : World) : Calls Tryd.prog 72 #[.bool b] w fun e w' => e = .returned (.int .i64 (bitI b)) ∧ w = w' := by
  cases b
  all_goals
    go_enter Tryd.func72, Tryd.ntmps72
    go_wp2
    go_ret
    exact ⟨rfl, rfl⟩
theorem isNumber_is {n : Int} {b : Bool} (h : inB n 0 10006 = b) (w : World) : Calls Tryd.prog 71 #[.int .i64 n] w fun e w' => e = .returned (.bool b) ∧ w = w' := by
  go_enter Tryd.func71, Tryd.ntmps71
  go_wp2_with (go_at_call 75; (with_reducible refine (within_is h _).mono ?_); rintro e w1 ⟨rfl, rfl⟩)
  go_ret
  exact ⟨rfl, rfl⟩
end Go.Proofs.YtcbgapncmjjmeaaDoor
