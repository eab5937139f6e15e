/-
  Contracts of OpArity in both texts.
-/
import Derived.Test.YtklifieahcoljaaGreatNum
namespace Go.Proofs.YtklifieahcoljaaGreat
open Go.RowKit
set_option linter.unusedVariables false
set_option linter.unusedSimpArgs false

/-- How many operands a sign takes. -/
def opArity (s : ByteArray) : Int := if (s.toList == [43]) || (s.toList == [45]) || (s.toList == [42]) || (s.toList == [61]) || (s.toList == [60]) || (s.toList == [38]) || (s.toList == [124]) then 2 else if s.toList == [33] then 1 else 0
set_option maxHeartbeats 800000 in
theorem implOpArity_any (s : ByteArray) (w : World) : Calls Tryz.prog 102 #[.string s] w fun e w' => e = .returned (.int .i64 (opArity s)) ∧ w = w' := by
  go_enter Tryz.func102, Tryz.ntmps102
  go_wp2
  all_goals go_ret
  all_goals first
    | exact ⟨ret_int (by unfold opArity; simp_all), rfl⟩
    | simp_all
set_option maxHeartbeats 800000 in
theorem specOpArity_any (s : ByteArray) (w : World) : Calls Tryz.prog 83 #[.string s] w fun e w' => e = .returned (.int .i64 (opArity s)) ∧ w = w' := by
  go_enter Tryz.func83, Tryz.ntmps83
  go_wp2
  all_goals go_ret
  all_goals first
    | exact ⟨ret_int (by unfold opArity; simp_all), rfl⟩
    | simp_all

end Go.Proofs.YtklifieahcoljaaGreat
