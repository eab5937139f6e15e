/-
  Contracts of l5Names and isNamed.
-/
import Derived.Test.YtmdmnchnkfjpjaaArM
import Derived.Test.YtmdmnchnkfjpjaaName
import Derived.Test.YtmdmnchnkfjpjaaBit
import Derived.Test.YtmdmnchnkfjpjaaValidTy
namespace Go.Proofs.Ytmdmnchnkfjpjaa
open Go.RowKit
set_option linter.unusedVariables false
set_option linter.unusedSimpArgs false

/-- The reference's test of the names. -/
def namesS (t : Tm) : Bool :=
  if t.kind == 4 then decide (0 < opArity t.name) && (t.other.toList == [])
  else if t.kind == 1 || t.kind == 6 || t.kind == 8 then isName t.name && (t.other.toList == [])
  else if t.kind == 9 then (isName t.name && isName t.other) && (t.name.toList != t.other.toList)
  else (t.name.toList == []) && (t.other.toList == [])

set_option maxHeartbeats 3200000 in
theorem l5Names_any (t : Tm) (l : Lt) (w : World) (h1 : t.name.size ≤ 1048576) (h2 : t.other.size ≤ 1048576) :
    Calls Try.prog 47 #[.agg #[.int .i64 t.kind, .string t.name, .string t.other, .int .i64 t.n, .int .i64 t.type.kind, .slice l.ta l.tn l.tc, .int .i64 t.res.kind, .slice l.ra l.rn l.rc, .slice l.aa l.an l.ac]] w fun e w' => e = .returned (.bool (namesS t)) ∧ Below w.heap.size w w' := by
  go_enter Try.func47, Try.ntmps47
  go_wp2_with (first
    | (go_at_call 17; (with_reducible refine (specOpArity_any _ _).mono ?_); rintro e w1 ⟨rfl, rfl⟩)
    | (go_at_call 62; (with_reducible refine (specIsName_any t.name _ h1).mono ?_); rintro e w1 ⟨rfl, b1⟩; have B1 := (Blk.new w _ _).under b1; obtain ⟨u0, u1, u2, u3, u4, u5, u6, u7, u8⟩ := B1.nine)
    | (go_at_call 62; (with_reducible refine (specIsName_any t.other _ h2).mono ?_); rintro e w2 ⟨rfl, b2⟩; have B2 := B1.under b2; obtain ⟨v0, v1, v2, v3, v4, v5, v6, v7, v8⟩ := B2.nine))
  all_goals go_ret
  all_goals first
    | exact ⟨ret_bool (by unfold namesS; first | (simp_all; done) | (simp_all; intros; omega) | (simp_all [bne]; done)), below_new _ _⟩
    | exact ⟨ret_bool (by unfold namesS; first | (simp_all; done) | (simp_all; intros; omega) | (simp_all [bne]; done)), below_of_alloc b1⟩
    | exact ⟨ret_bool (by unfold namesS; first | (simp_all; done) | (simp_all; intros; omega) | (simp_all [bne]; done)), below_next (below_of_alloc b1) b2⟩
    | trace_state
end Go.Proofs.Ytmdmnchnkfjpjaa
