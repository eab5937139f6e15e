/-
  The law FnExactApplyOp: the program's ApplyOp and the reference's return the same for every argument. No condition.
-/
import Derived.Test.YtmlpjadifjdmmabApply
namespace Go.Proofs.Ytmlpjadifjdmmab.fnExactApplyOp
open Go.RowKit Go.ChangeShapes Go.WideShapes
set_option linter.unusedVariables false
set_option linter.unusedSimpArgs false

theorem walk (s : ByteArray) (x y : Int) (w : World) (h : s.size ≤ maxLen) (wx : (Lit.int .i64 x).wf = true) (wy : (Lit.int .i64 y).wf = true) :
    Calls Try.prog 7 #[.string s, .int .i64 x, .int .i64 y] w fun e w' => e = .returned (.bool true) ∧ Below w.heap.size w w' := by
  generalize hr : applyOp s x y = r
  have h1 := hide (specApplyOp_any s x y)
  have h2 := hide (implApplyOp_any s x y)
  rw [hr] at h1 h2
  go_enter Try.func7, Try.ntmps7
  go_wp2_with (first
    | (go_at_call 23; (with_reducible refine (h1.out _).mono ?_); rintro e w1 ⟨rfl, rfl⟩)
    | (go_at_call 24; (with_reducible refine (h2.out _).mono ?_); rintro e w2 ⟨rfl, rfl⟩))
  all_goals go_ret
  all_goals exact ⟨by simp, Below.refl _ _⟩
end Go.Proofs.Ytmlpjadifjdmmab.fnExactApplyOp
