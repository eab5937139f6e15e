/-
  Contracts of the functions that make 1 or 0 of a truth value.
-/
import Derived.Test.YtaackbedahpnaaaNum
namespace Go.Proofs.Ytaackbedahpnaaa
open Go.RowKit
set_option linter.unusedVariables false
set_option linter.unusedSimpArgs false

/-- 1 or 0. -/
def bitI (b : Bool) : Int := if b then 1 else 0
theorem specl1Bit_any (b : Bool) (w : World) : Calls Try.prog 46 #[.bool b] w fun e w' => e = .returned (.int .i64 (bitI b)) ∧ w = w' := by
  cases b
  all_goals
    go_enter Try.func46, Try.ntmps46
    go_wp2
    go_ret
    exact ⟨rfl, rfl⟩
theorem implbit_any (b : Bool) (w : World) : Calls Try.prog 61 #[.bool b] w fun e w' => e = .returned (.int .i64 (bitI b)) ∧ w = w' := by
  cases b
  all_goals
    go_enter Try.func61, Try.ntmps61
    go_wp2
    go_ret
    exact ⟨rfl, rfl⟩
end Go.Proofs.Ytaackbedahpnaaa
