/-
  Contracts of l5Arity, arity and l5Zero: the number of a form's parts, and the type that is none.
-/
import Derived.Test.YtklifieahcoljaaGreatTm
import Derived.Test.YtklifieahcoljaaGreatOpAr
namespace Go.Proofs.YtklifieahcoljaaGreat
open Go.RowKit
set_option linter.unusedVariables false
set_option linter.unusedSimpArgs false

/-- The reference's number of parts; -1 for no form. -/
def arityS (k : Int) (nm : ByteArray) : Int :=
  if k == 1 || k == 2 || k == 3 then 0 else if k == 4 then opArity nm else if k == 6 || k == 9 || k == 10 || k == 11 || k == 12 || k == 13 then 1 else if k == 7 || k == 8 then 2 else if k == 5 then 3 else -1
/-- The program's number of parts; 0 for no form. -/
def arityI (k : Int) (nm : ByteArray) : Int :=
  if k == 4 then opArity nm else if k == 5 then 3 else if k == 7 || k == 8 then 2 else if k == 6 || k == 9 || k == 10 || k == 11 || k == 12 || k == 13 then 1 else 0

set_option maxHeartbeats 1600000 in
theorem l5Arity_any (t : Tm) (l : Lt) (w : World) : Calls Tryz.prog 54 #[.agg #[.int .i64 t.kind, .string t.name, .string t.other, .int .i64 t.n, .int .i64 t.type.kind, .slice l.ta l.tn l.tc, .int .i64 t.res.kind, .slice l.ra l.rn l.rc, .slice l.aa l.an l.ac]] w fun e w' => e = .returned (.int .i64 (arityS t.kind t.name)) ∧ Below w.heap.size w w' := by
  go_enter Tryz.func54, Tryz.ntmps54
  go_wp2_with (go_at_call 83; (with_reducible refine (specOpArity_any _ _).mono ?_); rintro e w1 ⟨rfl, rfl⟩)
  all_goals go_ret
  all_goals first
    | exact ⟨ret_int (by unfold arityS; simp_all), below_new _ _⟩
    | simp_all
set_option maxHeartbeats 1600000 in
theorem arity_any (t : Tm) (l : Lt) (w : World) : Calls Tryz.prog 77 #[.agg #[.int .i64 t.kind, .string t.name, .string t.other, .int .i64 t.n, .int .i64 t.type.kind, .slice l.ta l.tn l.tc, .int .i64 t.res.kind, .slice l.ra l.rn l.rc, .slice l.aa l.an l.ac]] w fun e w' => e = .returned (.int .i64 (arityI t.kind t.name)) ∧ Below w.heap.size w w' := by
  go_enter Tryz.func77, Tryz.ntmps77
  go_wp2_with (go_at_call 102; (with_reducible refine (implOpArity_any _ _).mono ?_); rintro e w1 ⟨rfl, rfl⟩)
  all_goals go_ret
  all_goals first
    | exact ⟨ret_int (by unfold arityI; simp_all), below_new _ _⟩
    | simp_all
/-- The type that is none. -/
def Ty.zero (t : Ty) : Bool := t.kind == 0 && (t.args.length : Int) == 0
theorem l5Zero_any (t : Ty) (c0 c1 : Value) (w : World) (h : Rd w t c0 c1) : Calls Tryz.prog 81 #[.agg #[c0, c1]] w fun e w' => e = .returned (.bool t.zero) ∧ Below w.heap.size w w' := by
  obtain ⟨a, n, cap, rfl, rfl, hk, hr⟩ := h.shape
  have hx := hide hr.1
  cases hz : (t.kind == 0) with
  | true =>
    go_enter Tryz.func81, Tryz.ntmps81
    go_wp2_with fail
    all_goals go_ret
    all_goals exact ⟨ret_bool (by rw [Ty.zero, hz, hx.out]; simp), below_new _ _⟩
  | false =>
    go_enter Tryz.func81, Tryz.ntmps81
    go_wp2_with fail
    all_goals go_ret
    all_goals exact ⟨ret_bool (by rw [Ty.zero, hz]; rfl), below_new _ _⟩
end Go.Proofs.YtklifieahcoljaaGreat
