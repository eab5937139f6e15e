/-
  Plain arithmetic of 'so many less, or -1'.
-/
import Derived.Test.YtmdmnchnkfjpjaaSz
namespace Go.Proofs.Ytmdmnchnkfjpjaa
set_option linter.unusedVariables false
theorem lessN_bounds (n : Nat) {left : Int} (h : 0 ≤ left) : -1 ≤ lessN n left ∧ lessN n left ≤ left := by unfold lessN; split <;> omega
theorem lessN_zero {left : Int} (h : 0 ≤ left) : lessN 0 left = left := by rw [lessN_pos (by omega)]; omega
theorem lessN_more {a b : Nat} {left : Int} (h : 0 ≤ lessN a left) : lessN b (lessN a left) = lessN (a + b) left := by
  have h1 := lessN_ge h
  rw [lessN_pos h1]
  unfold lessN
  split <;> split <;> omega
theorem lessN_stop {a c : Nat} {left : Int} (h0 : 0 ≤ left) (h : lessN a (left - 1) < 0) (hl : 0 ≤ left - 1) (hc : a < c) : lessN c left = -1 := by
  have h1 := lessN_lt hl h
  exact lessN_neg (by omega)
theorem lessN_one {a : Nat} {left : Int} : lessN a (left - 1) = lessN (1 + a) left := by
  unfold lessN
  split <;> split <;> omega
theorem lessN_eq_neg {a : Nat} {left : Int} (h0 : 0 ≤ left) (h : lessN a left < 0) : lessN a left = -1 := lessN_neg (lessN_lt h0 h)
end Go.Proofs.Ytmdmnchnkfjpjaa
