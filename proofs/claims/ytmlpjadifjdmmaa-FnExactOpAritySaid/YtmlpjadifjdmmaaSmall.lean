/-
  Contracts of small functions on numbers and texts: Reduce, KindName, RuleName, StatusName, OpArity, each in both texts.
-/
import Derived.Test.YtmlpjadifjdmmaaNum
namespace Go.Proofs.Ytmlpjadifjdmmaa
open Go.RowKit
set_option linter.unusedVariables false
set_option linter.unusedSimpArgs false

theorem tmod_facts (n : Int) : -10007 < n.tmod 10007 ∧ n.tmod 10007 < 10007 ∧ (n.tmod 10007 < 0 → n.tmod 10007 + 10007 = n % 10007) ∧ (0 ≤ n.tmod 10007 → n.tmod 10007 = n % 10007) := by
  rw [Int.tmod_eq_emod]
  split <;> rename_i h
  · omega
  · have : ¬ (10007 ∣ n) := fun h' => h (.inr h')
    simp
    omega

theorem implReduce_any (n : Int) (w : World) : Calls Try.prog 10 #[.int .i64 n] w fun e w' => e = .returned (.int .i64 (n % 10007)) ∧ w = w' := by
  obtain ⟨h1, h2, h3, h4⟩ := tmod_facts n
  go_enter Try.func10, Try.ntmps10
  go_wp2
  go_ret
  refine ⟨ret_int ?_, rfl⟩
  generalize n.tmod 10007 = m at *
  by_cases h : m < 0
  · have := h3 h
    omega
  · have := h4 (by omega)
    omega
theorem specReduce_any (n : Int) (w : World) : Calls Try.prog 9 #[.int .i64 n] w fun e w' => e = .returned (.int .i64 (n % 10007)) ∧ w = w' := by
  obtain ⟨h1, h2, h3, h4⟩ := tmod_facts n
  go_enter Try.func9, Try.ntmps9
  go_wp2
  all_goals go_ret
  · exact ⟨rfl, rfl⟩
  · exact ⟨ret_int (h4 (by omega)), rfl⟩

/-- How many operands a sign takes. -/
def opArity (s : ByteArray) : Int := if (s.toList == [43]) || (s.toList == [45]) || (s.toList == [42]) || (s.toList == [61]) || (s.toList == [60]) || (s.toList == [38]) || (s.toList == [124]) then 2 else if s.toList == [33] then 1 else 0
set_option maxHeartbeats 800000 in
theorem implOpArity_any (s : ByteArray) (w : World) : Calls Try.prog 18 #[.string s] w fun e w' => e = .returned (.int .i64 (opArity s)) ∧ w = w' := by
  go_enter Try.func18, Try.ntmps18
  go_wp2
  all_goals go_ret
  all_goals first
    | exact ⟨ret_int (by unfold opArity; simp_all), rfl⟩
    | simp_all
set_option maxHeartbeats 800000 in
theorem specOpArity_any (s : ByteArray) (w : World) : Calls Try.prog 17 #[.string s] w fun e w' => e = .returned (.int .i64 (opArity s)) ∧ w = w' := by
  go_enter Try.func17, Try.ntmps17
  go_wp2
  all_goals go_ret
  all_goals first
    | exact ⟨ret_int (by unfold opArity; simp_all), rfl⟩
    | simp_all

/-- The word a table has for a number, if it has one. -/
def wordAt (l : List ByteArray) (lo k : Int) : ByteArray := if lo ≤ k ∧ k < lo + l.length then l.getD (k - lo).toNat ByteArray.empty else ⟨#[63]⟩
theorem word_no {l : List ByteArray} {lo k : Int} (h : ¬ (lo ≤ k ∧ k < lo + l.length)) : wordAt l lo k = ⟨#[63]⟩ := by rw [wordAt, if_neg h]
theorem word_yes {l : List ByteArray} {lo k : Int} {j : Nat} (h : lo ≤ k ∧ k < lo + l.length) (hj : k - lo = j) : (l.map Value.string)[j]? = some (.string (wordAt l lo k)) := by
  have h1 : (k - lo).toNat = j := by omega
  have h2 : j < l.length := by omega
  rw [wordAt, if_pos h, h1, List.getElem?_map, List.getElem?_eq_getElem h2, List.getD_eq_getElem?_getD, List.getElem?_eq_getElem h2]
  rfl
def kindWords : List ByteArray := [⟨#[118, 97, 114]⟩, ⟨#[105, 110, 116]⟩, ⟨#[98, 111, 111, 108]⟩, ⟨#[111, 112]⟩, ⟨#[105, 102]⟩, ⟨#[108, 97, 109]⟩, ⟨#[97, 112, 112]⟩, ⟨#[108, 101, 116]⟩, ⟨#[114, 101, 99]⟩, ⟨#[113, 117, 111, 116, 101]⟩, ⟨#[115, 112, 108, 105, 99, 101]⟩, ⟨#[114, 117, 110]⟩, ⟨#[108, 105, 102, 116]⟩]
def ruleWords : List ByteArray := [⟨#[110, 111, 110, 101]⟩, ⟨#[111, 112]⟩, ⟨#[105, 102]⟩, ⟨#[97, 112, 112]⟩, ⟨#[114, 101, 99]⟩, ⟨#[108, 101, 116]⟩, ⟨#[115, 112, 108, 105, 99, 101]⟩, ⟨#[114, 117, 110]⟩, ⟨#[108, 105, 102, 116]⟩]
def statusWords : List ByteArray := [⟨#[98, 97, 100]⟩, ⟨#[100, 111, 110, 101]⟩, ⟨#[102, 117, 101, 108]⟩, ⟨#[108, 97, 114, 103, 101]⟩, ⟨#[115, 116, 117, 99, 107]⟩]

set_option maxHeartbeats 800000 in
theorem implKindName_any (k : Int) (w : World) : Calls Try.prog 12 #[.int .i64 k] w fun e w' => e = .returned (.string (wordAt kindWords 1 k)) ∧ Below w.heap.size w w' := by
  by_cases hk : 1 ≤ k ∧ k ≤ 13
  · have hin : inB k 1 13 = true := inB_iff.2 hk
    obtain ⟨j, hj⟩ : ∃ j : Nat, k - 1 = j := ⟨(k - 1).toNat, by omega⟩
    obtain rfl : k = 1 + j := by omega
    have hg := word_yes (l := kindWords) (lo := 1) (k := 1 + j) (j := j) ⟨by omega, by simp [kindWords]; omega⟩ hj
    generalize wordAt kindWords 1 (1 + j) = s at hg ⊢
    simp only [kindWords, List.map] at hg
    go_enter Try.func12, Try.ntmps12
    go_wp2_with (go_at_call 20; (with_reducible refine (within_is hin _).mono ?_); rintro e w1 ⟨rfl, rfl⟩)
    go_ret
    exact ⟨rfl, below_new _ _⟩
  · have hin : inB k 1 13 = false := by
      rw [← Bool.not_eq_true, inB_iff]
      exact hk
    rw [word_no (by simp [kindWords]; omega)]
    go_enter Try.func12, Try.ntmps12
    go_wp2_with (go_at_call 20; (with_reducible refine (within_is hin _).mono ?_); rintro e w1 ⟨rfl, rfl⟩)
    go_ret
    exact ⟨rfl, Below.refl _ _⟩
set_option maxHeartbeats 800000 in
theorem specKindName_any (k : Int) (w : World) : Calls Try.prog 11 #[.int .i64 k] w fun e w' => e = .returned (.string (wordAt kindWords 1 k)) ∧ Below w.heap.size w w' := by
  by_cases hk : 1 ≤ k ∧ k ≤ 13
  · have hin : inB k 1 13 = true := inB_iff.2 hk
    obtain ⟨j, hj⟩ : ∃ j : Nat, k - 1 = j := ⟨(k - 1).toNat, by omega⟩
    obtain rfl : k = 1 + j := by omega
    have hg := word_yes (l := kindWords) (lo := 1) (k := 1 + j) (j := j) ⟨by omega, by simp [kindWords]; omega⟩ hj
    generalize wordAt kindWords 1 (1 + j) = s at hg ⊢
    simp only [kindWords, List.map] at hg
    go_enter Try.func11, Try.ntmps11
    go_wp2_with (go_at_call 19; (with_reducible refine (l1In_is hin _).mono ?_); rintro e w1 ⟨rfl, rfl⟩)
    go_ret
    exact ⟨rfl, below_new _ _⟩
  · have hin : inB k 1 13 = false := by
      rw [← Bool.not_eq_true, inB_iff]
      exact hk
    rw [word_no (by simp [kindWords]; omega)]
    go_enter Try.func11, Try.ntmps11
    go_wp2_with (go_at_call 19; (with_reducible refine (l1In_is hin _).mono ?_); rintro e w1 ⟨rfl, rfl⟩)
    go_ret
    exact ⟨rfl, Below.refl _ _⟩
set_option maxHeartbeats 800000 in
theorem implRuleName_any (k : Int) (w : World) : Calls Try.prog 14 #[.int .i64 k] w fun e w' => e = .returned (.string (wordAt ruleWords 0 k)) ∧ Below w.heap.size w w' := by
  by_cases hk : 0 ≤ k ∧ k ≤ 8
  · have hin : inB k 0 8 = true := inB_iff.2 hk
    obtain ⟨j, hj⟩ : ∃ j : Nat, k - 0 = j := ⟨(k - 0).toNat, by omega⟩
    obtain rfl : k = j := by omega
    have hg := word_yes (l := ruleWords) (lo := 0) (k := j) (j := j) ⟨by omega, by simp [ruleWords]; omega⟩ hj
    generalize wordAt ruleWords 0 (j) = s at hg ⊢
    simp only [ruleWords, List.map] at hg
    go_enter Try.func14, Try.ntmps14
    go_wp2_with (go_at_call 20; (with_reducible refine (within_is hin _).mono ?_); rintro e w1 ⟨rfl, rfl⟩)
    go_ret
    exact ⟨rfl, below_new _ _⟩
  · have hin : inB k 0 8 = false := by
      rw [← Bool.not_eq_true, inB_iff]
      exact hk
    rw [word_no (by simp [ruleWords]; omega)]
    go_enter Try.func14, Try.ntmps14
    go_wp2_with (go_at_call 20; (with_reducible refine (within_is hin _).mono ?_); rintro e w1 ⟨rfl, rfl⟩)
    go_ret
    exact ⟨rfl, Below.refl _ _⟩
set_option maxHeartbeats 800000 in
theorem specRuleName_any (k : Int) (w : World) : Calls Try.prog 13 #[.int .i64 k] w fun e w' => e = .returned (.string (wordAt ruleWords 0 k)) ∧ Below w.heap.size w w' := by
  by_cases hk : 0 ≤ k ∧ k ≤ 8
  · have hin : inB k 0 8 = true := inB_iff.2 hk
    obtain ⟨j, hj⟩ : ∃ j : Nat, k - 0 = j := ⟨(k - 0).toNat, by omega⟩
    obtain rfl : k = j := by omega
    have hg := word_yes (l := ruleWords) (lo := 0) (k := j) (j := j) ⟨by omega, by simp [ruleWords]; omega⟩ hj
    generalize wordAt ruleWords 0 (j) = s at hg ⊢
    simp only [ruleWords, List.map] at hg
    go_enter Try.func13, Try.ntmps13
    go_wp2_with (go_at_call 19; (with_reducible refine (l1In_is hin _).mono ?_); rintro e w1 ⟨rfl, rfl⟩)
    go_ret
    exact ⟨rfl, below_new _ _⟩
  · have hin : inB k 0 8 = false := by
      rw [← Bool.not_eq_true, inB_iff]
      exact hk
    rw [word_no (by simp [ruleWords]; omega)]
    go_enter Try.func13, Try.ntmps13
    go_wp2_with (go_at_call 19; (with_reducible refine (l1In_is hin _).mono ?_); rintro e w1 ⟨rfl, rfl⟩)
    go_ret
    exact ⟨rfl, Below.refl _ _⟩
set_option maxHeartbeats 800000 in
theorem implStatusName_any (k : Int) (w : World) : Calls Try.prog 16 #[.int .i64 k] w fun e w' => e = .returned (.string (wordAt statusWords 0 k)) ∧ Below w.heap.size w w' := by
  by_cases hk : 0 ≤ k ∧ k ≤ 4
  · have hin : inB k 0 4 = true := inB_iff.2 hk
    obtain ⟨j, hj⟩ : ∃ j : Nat, k - 0 = j := ⟨(k - 0).toNat, by omega⟩
    obtain rfl : k = j := by omega
    have hg := word_yes (l := statusWords) (lo := 0) (k := j) (j := j) ⟨by omega, by simp [statusWords]; omega⟩ hj
    generalize wordAt statusWords 0 (j) = s at hg ⊢
    simp only [statusWords, List.map] at hg
    go_enter Try.func16, Try.ntmps16
    go_wp2_with (go_at_call 20; (with_reducible refine (within_is hin _).mono ?_); rintro e w1 ⟨rfl, rfl⟩)
    go_ret
    exact ⟨rfl, below_new _ _⟩
  · have hin : inB k 0 4 = false := by
      rw [← Bool.not_eq_true, inB_iff]
      exact hk
    rw [word_no (by simp [statusWords]; omega)]
    go_enter Try.func16, Try.ntmps16
    go_wp2_with (go_at_call 20; (with_reducible refine (within_is hin _).mono ?_); rintro e w1 ⟨rfl, rfl⟩)
    go_ret
    exact ⟨rfl, Below.refl _ _⟩
set_option maxHeartbeats 800000 in
theorem specStatusName_any (k : Int) (w : World) : Calls Try.prog 15 #[.int .i64 k] w fun e w' => e = .returned (.string (wordAt statusWords 0 k)) ∧ Below w.heap.size w w' := by
  by_cases hk : 0 ≤ k ∧ k ≤ 4
  · have hin : inB k 0 4 = true := inB_iff.2 hk
    obtain ⟨j, hj⟩ : ∃ j : Nat, k - 0 = j := ⟨(k - 0).toNat, by omega⟩
    obtain rfl : k = j := by omega
    have hg := word_yes (l := statusWords) (lo := 0) (k := j) (j := j) ⟨by omega, by simp [statusWords]; omega⟩ hj
    generalize wordAt statusWords 0 (j) = s at hg ⊢
    simp only [statusWords, List.map] at hg
    go_enter Try.func15, Try.ntmps15
    go_wp2_with (go_at_call 19; (with_reducible refine (l1In_is hin _).mono ?_); rintro e w1 ⟨rfl, rfl⟩)
    go_ret
    exact ⟨rfl, below_new _ _⟩
  · have hin : inB k 0 4 = false := by
      rw [← Bool.not_eq_true, inB_iff]
      exact hk
    rw [word_no (by simp [statusWords]; omega)]
    go_enter Try.func15, Try.ntmps15
    go_wp2_with (go_at_call 19; (with_reducible refine (l1In_is hin _).mono ?_); rintro e w1 ⟨rfl, rfl⟩)
    go_ret
    exact ⟨rfl, Below.refl _ _⟩
end Go.Proofs.Ytmlpjadifjdmmaa
