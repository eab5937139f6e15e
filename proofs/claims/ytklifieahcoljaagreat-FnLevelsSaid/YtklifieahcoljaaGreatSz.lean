/-
  The walks of szType and szTypeS: they take from 'left' the number of nodes below a type's root, -1 where there are more.
-/
import Derived.Test.YtklifieahcoljaaGreatRep
import Derived.Test.YtklifieahcoljaaGreatRows
import Derived.LoopTactic
namespace Go.Proofs.YtklifieahcoljaaGreat
open Go.RowKit
set_option linter.unusedVariables false

/-- n less, or -1 where that would be below 0. -/
def lessN (n : Nat) (left : Int) : Int := if (n : Int) ≤ left then left - n else -1
theorem lessN_pos {n : Nat} {left : Int} (h : (n : Int) ≤ left) : lessN n left = left - n := by rw [lessN, if_pos h]
theorem lessN_neg {n : Nat} {left : Int} (h : left < (n : Int)) : lessN n left = -1 := by rw [lessN, if_neg (by omega)]
theorem lessN_lt {n : Nat} {left : Int} (_h0 : 0 ≤ left) (h : lessN n left < 0) : left < (n : Int) := by unfold lessN at h; split at h <;> omega
theorem lessN_ge {n : Nat} {left : Int} (h : 0 ≤ lessN n left) : (n : Int) ≤ left := by unfold lessN at h; split at h <;> omega


end Go.Proofs.YtklifieahcoljaaGreat
