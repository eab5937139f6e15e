/-
  Contracts of Reduce in both texts.
-/
import Derived.Test.YtcbgapncmjjmeaaDoorNum
namespace Go.Proofs.YtcbgapncmjjmeaaDoor
open Go.RowKit
set_option linter.unusedVariables false
set_option linter.unusedSimpArgs false

theorem tmod_facts (n : Int) : -10007 < n.tmod 10007 ∧ n.tmod 10007 < 10007 ∧ (n.tmod 10007 < 0 → n.tmod 10007 + 10007 = n % 10007) ∧ (0 ≤ n.tmod 10007 → n.tmod 10007 = n % 10007) := by
  rw [Int.tmod_eq_emod]
  split <;> rename_i h
  · omega
  · have : ¬ (10007 ∣ n) := fun h' => h (.inr h')
    simp
    omega

theorem implReduce_any (n : Int) (w : World) : Calls Tryd.prog 36 #[.int .i64 n] w fun e w' => e = .returned (.int .i64 (n % 10007)) ∧ w = w' := by
  obtain ⟨h1, h2, h3, h4⟩ := tmod_facts n
  go_enter Tryd.func36, Tryd.ntmps36
  go_wp2
  go_ret
  refine ⟨ret_int ?_, rfl⟩
  generalize n.tmod 10007 = m at *
  by_cases h : m < 0
  · have := h3 h
    omega
  · have := h4 (by omega)
    omega
theorem specReduce_any (n : Int) (w : World) : Calls Tryd.prog 42 #[.int .i64 n] w fun e w' => e = .returned (.int .i64 (n % 10007)) ∧ w = w' := by
  obtain ⟨h1, h2, h3, h4⟩ := tmod_facts n
  go_enter Tryd.func42, Tryd.ntmps42
  go_wp2
  all_goals go_ret
  · exact ⟨rfl, rfl⟩
  · exact ⟨ret_int (h4 (by omega)), rfl⟩

end Go.Proofs.YtcbgapncmjjmeaaDoor
