/-
  The walk of the reference's l8Made; LevelsOk and IsGenerated in both texts.
-/
import Derived.Test.YtknlbhclfeldbaaLevI
namespace Go.Proofs.Ytknlbhclfeldbaa
open Go.RowKit
set_option linter.unusedVariables false
set_option linter.unusedSimpArgs false


/-- The levels are right, and the term is one. -/
def Tm.levelsOk (t : Tm) (m : Int) : Bool := t.ok && lvOk t m
def Tm.generated (t : Tm) (m : Int) : Bool := t.levelsOk m && lvMade t m

set_option maxHeartbeats 800000 in
theorem specLevelsOk_any (t : Tm) (l : Lt) (m : Int) (w : World) (h : Md w t l) (hw : t.wt ≤ 1048576) :
    Calls Try.prog 45 #[.agg #[.int .i64 t.kind, .string t.name, .string t.other, .int .i64 t.n, .int .i64 t.type.kind, .slice l.ta l.tn l.tc, .int .i64 t.res.kind, .slice l.ra l.rn l.rc, .slice l.aa l.an l.ac], .int .i64 m] w fun e w' => e = .returned (.bool (t.levelsOk m)) ∧ Below w.heap.size w w' := by
  have h1 : Md (w.alloc (.cells #[.int .i64 t.kind, .string t.name, .string t.other, .int .i64 t.n, .int .i64 t.type.kind, .slice l.ta l.tn l.tc, .int .i64 t.res.kind, .slice l.ra l.rn l.rc, .slice l.aa l.an l.ac] 42)) t l := h.below (below_new _ _)
  have hv : t.levelsOk m = (t.ok && lvOk t m) := rfl
  cases ho : t.ok with
  | false =>
    have C := specIsTerm_any t l _ h1 hw
    rw [ho] at C hv
    replace C := hide C
    replace hv := hide hv
    clear ho
    go_enter Try.func45, Try.ntmps45
    go_wp2_with (go_at_call 54; (with_reducible refine C.out.mono ?_); rintro e w1 ⟨rfl, b1⟩)
    go_ret
    exact ⟨ret_bool (by rw [hv.out]; rfl), below_of_alloc b1⟩
  | true =>
    have C := specIsTerm_any t l _ h1 hw
    rw [ho] at C hv
    replace C := hide C
    replace hv := hide hv
    clear ho
    go_enter Try.func45, Try.ntmps45
    go_wp2_with (first
      | (go_at_call 54; (with_reducible refine C.out.mono ?_); rintro e w1 ⟨rfl, b1⟩
         have B1 := (Blk.new w _ _).under b1
         have h2 := h1.below b1
         obtain ⟨u0, u1, u2, u3, u4, u5, u6, u7, u8⟩ := B1.nine)
      | (go_at_call 55; (with_reducible refine (l8Ok_any t l m _ h2).mono ?_); rintro e w2 ⟨rfl, b2⟩))
    go_ret
    exact ⟨ret_bool (by rw [hv.out]; rfl), below_next (below_of_alloc b1) b2⟩
set_option maxHeartbeats 800000 in
theorem implLevelsOk_any (t : Tm) (l : Lt) (m : Int) (w : World) (h : Md w t l) (hw : t.wt ≤ 1048576) :
    Calls Try.prog 46 #[.agg #[.int .i64 t.kind, .string t.name, .string t.other, .int .i64 t.n, .int .i64 t.type.kind, .slice l.ta l.tn l.tc, .int .i64 t.res.kind, .slice l.ra l.rn l.rc, .slice l.aa l.an l.ac], .int .i64 m] w fun e w' => e = .returned (.bool (t.levelsOk m)) ∧ Below w.heap.size w w' := by
  have h1 : Md (w.alloc (.cells #[.int .i64 t.kind, .string t.name, .string t.other, .int .i64 t.n, .int .i64 t.type.kind, .slice l.ta l.tn l.tc, .int .i64 t.res.kind, .slice l.ra l.rn l.rc, .slice l.aa l.an l.ac] 42)) t l := h.below (below_new _ _)
  have hv : t.levelsOk m = (t.ok && lvOk t m) := rfl
  cases ho : t.ok with
  | false =>
    have C := implIsTerm_any t l _ h1 hw
    rw [ho] at C hv
    replace C := hide C
    replace hv := hide hv
    clear ho
    go_enter Try.func46, Try.ntmps46
    go_wp2_with (go_at_call 56; (with_reducible refine C.out.mono ?_); rintro e w1 ⟨rfl, b1⟩)
    go_ret
    exact ⟨ret_bool (by rw [hv.out]; rfl), below_of_alloc b1⟩
  | true =>
    have C := implIsTerm_any t l _ h1 hw
    rw [ho] at C hv
    replace C := hide C
    replace hv := hide hv
    clear ho
    go_enter Try.func46, Try.ntmps46
    go_wp2_with (first
      | (go_at_call 56; (with_reducible refine C.out.mono ?_); rintro e w1 ⟨rfl, b1⟩
         have B1 := (Blk.new w _ _).under b1
         have h2 := h1.below b1
         obtain ⟨u0, u1, u2, u3, u4, u5, u6, u7, u8⟩ := B1.nine)
      | (go_at_call 57; (with_reducible refine (levelsOk_any t l m _ h2 trivial).mono ?_); rintro e w2 ⟨rfl, b2⟩))
    go_ret
    exact ⟨ret_bool (by rw [hv.out]; rfl), below_next (below_of_alloc b1) b2⟩
end Go.Proofs.Ytknlbhclfeldbaa
