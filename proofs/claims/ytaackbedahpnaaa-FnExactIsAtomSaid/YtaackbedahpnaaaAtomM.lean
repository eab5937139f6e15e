/-
  The walks of IsAtom in both texts.
-/
import Derived.Test.YtaackbedahpnaaaTm
import Derived.Test.YtaackbedahpnaaaNum
import Derived.Test.YtaackbedahpnaaaRows
namespace Go.Proofs.Ytaackbedahpnaaa
open Go.RowKit
set_option linter.unusedVariables false
set_option linter.unusedSimpArgs false

theorem specIsAtom_any (t : Tm) (l : Lt) (w : World) (h : Md w t l) (hz : Tm.sizes t.args ≤ 1048576) :
    Calls Try.prog 14 #[.agg #[.int .i64 t.kind, .string t.name, .string t.other, .int .i64 t.n, .int .i64 t.type.kind, .slice l.ta l.tn l.tc, .int .i64 t.res.kind, .slice l.ra l.rn l.rc, .slice l.aa l.an l.ac]] w fun e w' => e = .returned (.bool (inB t.kind 1 3)) ∧ Below w.heap.size w w' := by
  go_enter Try.func14, Try.ntmps14
  go_wp2_with (go_at_call 38; (with_reducible refine (l1In_any _ _ _ _).mono ?_); rintro e w' ⟨rfl, rfl⟩)
  go_ret
  exact ⟨rfl, below_new _ _⟩
theorem implIsAtom_any (t : Tm) (l : Lt) (w : World) (h : Md w t l) (hz : Tm.sizes t.args ≤ 1048576) :
    Calls Try.prog 16 #[.agg #[.int .i64 t.kind, .string t.name, .string t.other, .int .i64 t.n, .int .i64 t.type.kind, .slice l.ta l.tn l.tc, .int .i64 t.res.kind, .slice l.ra l.rn l.rc, .slice l.aa l.an l.ac]] w fun e w' => e = .returned (.bool (inB t.kind 1 3)) ∧ Below w.heap.size w w' := by
  by_cases h2 : t.kind = 2
  · have g2 : (t.kind == 2) = true := by simp [h2]
    go_enter Try.func16, Try.ntmps16
    go_wp2_with fail
    all_goals go_ret
    all_goals exact ⟨ret_bool (by simp [inB, h2]), below_new _ _⟩
  · have g2 : (t.kind == 2) = false := by simp [h2]
    by_cases h3 : t.kind = 3
    · have g3 : (t.kind == 3) = true := by simp [h3]
      go_enter Try.func16, Try.ntmps16
      go_wp2_with fail
      all_goals go_ret
      all_goals exact ⟨ret_bool (by simp [inB, h3]), below_new _ _⟩
    · have g3 : (t.kind == 3) = false := by simp [h3]
      have g1 : (t.kind == 1) = inB t.kind 1 3 := by
        rw [Bool.eq_iff_iff, inB_iff]
        simp
        omega
      go_enter Try.func16, Try.ntmps16
      go_wp2_with fail
      all_goals go_ret
      all_goals exact ⟨ret_bool (by simp_all), below_new _ _⟩
end Go.Proofs.Ytaackbedahpnaaa
