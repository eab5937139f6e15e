/-
  The walks of ApplyOp in both texts.
-/
import Derived.Test.YtcbgapncmjjmeaaDoorRed
import Derived.Test.YtcbgapncmjjmeaaDoorBit
namespace Go.Proofs.YtcbgapncmjjmeaaDoor
open Go.RowKit
set_option linter.unusedVariables false
set_option linter.unusedSimpArgs false

/-- What a sign makes of two numbers. -/
def applyOp (s : ByteArray) (x y : Int) : Int × Bool :=
  if !inB x 0 10006 || !inB y 0 10006 then (0, false)
  else if s.toList == [43] then ((x + y) % 10007, true)
  else if s.toList == [45] then ((x - y) % 10007, true)
  else if s.toList == [42] then ((x * y) % 10007, true)
  else if s.toList == [61] then (bitI (x == y), true)
  else if s.toList == [60] then (bitI (decide (x < y)), true)
  else if s.toList == [38] then (bitI (x == 1 && y == 1), true)
  else if s.toList == [124] then (bitI (x == 1 || y == 1), true)
  else if s.toList == [33] then (bitI (x == 0), true)
  else (0, false)

set_option maxHeartbeats 1600000 in
theorem specApplyOp_any (s : ByteArray) (x y : Int) (w : World) : Calls Tryd.prog 45 #[.string s, .int .i64 x, .int .i64 y] w fun e w' => e = .returned (.tuple #[.int .i64 (applyOp s x y).1, .bool (applyOp s x y).2]) ∧ w = w' := by
  cases hx : inB x 0 10006 with
  | false =>
    rw [applyOp, if_pos (by rw [hx]; rfl)]
    go_enter Tryd.func45, Tryd.ntmps45
    go_wp2_with (go_at_call 73; (with_reducible refine (l1In_is hx _).mono ?_); rintro e w1 ⟨rfl, rfl⟩)
    exact bodyPost_ret (v := .tuple #[.int .i64 0, .bool false]) (by simp [results, Tryd.results45, go_sem]) rfl ⟨rfl, rfl⟩
  | true =>
    cases hy : inB y 0 10006 with
    | false =>
      rw [applyOp, if_pos (by rw [hy]; cases inB x 0 10006 <;> rfl)]
      go_enter Tryd.func45, Tryd.ntmps45
      go_wp2_with (first
        | (go_at_call 73; (with_reducible refine (l1In_is hx _).mono ?_); rintro e w1 ⟨rfl, rfl⟩)
        | (go_at_call 73; (with_reducible refine (l1In_is hy _).mono ?_); rintro e w1 ⟨rfl, rfl⟩))
      exact bodyPost_ret (v := .tuple #[.int .i64 0, .bool false]) (by simp [results, Tryd.results45, go_sem]) rfl ⟨rfl, rfl⟩
    | true =>
      have hx' := inB_iff.1 hx
      have hy' := inB_iff.1 hy
      have hm0 : 0 ≤ x * y := Int.mul_nonneg hx'.1 hy'.1
      have hm1 : x * y ≤ 10006 * 10006 := Int.mul_le_mul hx'.2 hy'.2 hy'.1 (by omega)
      obtain ⟨r, hr⟩ : ∃ r, applyOp s x y = r := ⟨_, rfl⟩
      rw [hr]
      rw [applyOp, if_neg (by rw [hx, hy]; simp)] at hr
      replace hr := hide hr
      go_enter Tryd.func45, Tryd.ntmps45
      go_wp2_with (first
        | (go_at_call 73; (with_reducible refine (l1In_is hx _).mono ?_); rintro e w1 ⟨rfl, rfl⟩)
        | (go_at_call 73; (with_reducible refine (l1In_is hy _).mono ?_); rintro e w1 ⟨rfl, rfl⟩)
        | (go_at_call 42; (with_reducible refine (specReduce_any _ _).mono ?_); rintro e w1 ⟨rfl, rfl⟩)
        | (go_at_call 74; (with_reducible refine (specl1Bit_any _ _).mono ?_); rintro e w1 ⟨rfl, rfl⟩))
      all_goals refine bodyPost_ret (v := .tuple #[.int .i64 r.1, .bool r.2]) ?_ rfl ⟨rfl, rfl⟩
      all_goals
        have hr := hr.out
        simp_all [results, Tryd.results45, go_sem]
        try (simp [← hr]; done)
        try (simp [← hr]; congr 1; simp_all; done)
set_option maxHeartbeats 1600000 in
theorem implApplyOp_any (s : ByteArray) (x y : Int) (w : World) : Calls Tryd.prog 44 #[.string s, .int .i64 x, .int .i64 y] w fun e w' => e = .returned (.tuple #[.int .i64 (applyOp s x y).1, .bool (applyOp s x y).2]) ∧ w = w' := by
  cases hx : inB x 0 10006 with
  | false =>
    rw [applyOp, if_pos (by rw [hx]; rfl)]
    go_enter Tryd.func44, Tryd.ntmps44
    go_wp2_with (go_at_call 71; (with_reducible refine (isNumber_is hx _).mono ?_); rintro e w1 ⟨rfl, rfl⟩)
    exact bodyPost_ret (v := .tuple #[.int .i64 0, .bool false]) (by simp [results, Tryd.results44, go_sem]) rfl ⟨rfl, rfl⟩
  | true =>
    cases hy : inB y 0 10006 with
    | false =>
      rw [applyOp, if_pos (by rw [hy]; cases inB x 0 10006 <;> rfl)]
      go_enter Tryd.func44, Tryd.ntmps44
      go_wp2_with (first
        | (go_at_call 71; (with_reducible refine (isNumber_is hx _).mono ?_); rintro e w1 ⟨rfl, rfl⟩)
        | (go_at_call 71; (with_reducible refine (isNumber_is hy _).mono ?_); rintro e w1 ⟨rfl, rfl⟩))
      exact bodyPost_ret (v := .tuple #[.int .i64 0, .bool false]) (by simp [results, Tryd.results44, go_sem]) rfl ⟨rfl, rfl⟩
    | true =>
      have hx' := inB_iff.1 hx
      have hy' := inB_iff.1 hy
      have hm0 : 0 ≤ x * y := Int.mul_nonneg hx'.1 hy'.1
      have hm1 : x * y ≤ 10006 * 10006 := Int.mul_le_mul hx'.2 hy'.2 hy'.1 (by omega)
      obtain ⟨r, hr⟩ : ∃ r, applyOp s x y = r := ⟨_, rfl⟩
      rw [hr]
      rw [applyOp, if_neg (by rw [hx, hy]; simp)] at hr
      replace hr := hide hr
      go_enter Tryd.func44, Tryd.ntmps44
      go_wp2_with (first
        | (go_at_call 71; (with_reducible refine (isNumber_is hx _).mono ?_); rintro e w1 ⟨rfl, rfl⟩)
        | (go_at_call 71; (with_reducible refine (isNumber_is hy _).mono ?_); rintro e w1 ⟨rfl, rfl⟩)
        | (go_at_call 36; (with_reducible refine (implReduce_any _ _).mono ?_); rintro e w1 ⟨rfl, rfl⟩)
        | (go_at_call 72; (with_reducible refine (implbit_any _ _).mono ?_); rintro e w1 ⟨rfl, rfl⟩))
      all_goals refine bodyPost_ret (v := .tuple #[.int .i64 r.1, .bool r.2]) ?_ rfl ⟨rfl, rfl⟩
      all_goals
        have hr := hr.out
        simp_all [results, Tryd.results44, go_sem]
        try (simp [← hr]; done)
        try (simp [← hr]; congr 1; simp_all; done)
end Go.Proofs.YtcbgapncmjjmeaaDoor
