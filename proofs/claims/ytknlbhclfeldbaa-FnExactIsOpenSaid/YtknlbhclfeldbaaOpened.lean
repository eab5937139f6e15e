/-
  The walks of IsOpen in both texts.
-/
import Derived.Test.YtknlbhclfeldbaaPkFree
import Derived.Test.YtknlbhclfeldbaaLevJ
namespace Go.Proofs.Ytknlbhclfeldbaa
open Go.RowKit
set_option linter.unusedVariables false
set_option linter.unusedSimpArgs false

/-- Staged and with a free name. -/
def Tm.opened (t : Tm) : Bool := t.levelsOk 0 && !t.closed
set_option maxHeartbeats 800000 in
theorem specIsOpen_any (t : Tm) (l : Lt) (w : World) (h : Md w t l) (hw : t.wt ≤ 1048576) :
    Calls Try.prog 25 #[.agg #[.int .i64 t.kind, .string t.name, .string t.other, .int .i64 t.n, .int .i64 t.type.kind, .slice l.ta l.tn l.tc, .int .i64 t.res.kind, .slice l.ra l.rn l.rc, .slice l.aa l.an l.ac]] w fun e w' => e = .returned (.bool t.opened) ∧ Below w.heap.size w w' := by
  have h1 : Md (w.alloc (.cells #[.int .i64 t.kind, .string t.name, .string t.other, .int .i64 t.n, .int .i64 t.type.kind, .slice l.ta l.tn l.tc, .int .i64 t.res.kind, .slice l.ra l.rn l.rc, .slice l.aa l.an l.ac] 42)) t l := h.below (below_new _ _)
  have C := specLevelsOk_any t l 0 _ h1 hw
  have hv : t.opened = (t.levelsOk 0 && !t.closed) := rfl
  cases ho : t.levelsOk 0 with
  | false =>
    rw [ho] at C hv
    replace C := hide C
    replace hv := hide hv
    clear ho
    go_enter Try.func25, Try.ntmps25
    go_wp2_with (go_at_call 45; (with_reducible refine C.out.mono ?_); rintro e w1 ⟨rfl, b1⟩)
    go_ret
    exact ⟨ret_bool (by rw [hv.out]; rfl), below_of_alloc b1⟩
  | true =>
    have C2 := fun W hW => specIsClosed_any t l W hW hw
    rw [ho] at C hv
    replace C := hide C
    replace C2 := hide C2
    replace hv := hide hv
    clear ho
    go_enter Try.func25, Try.ntmps25
    go_wp2_with (first
      | (go_at_call 45; (with_reducible refine C.out.mono ?_); rintro e w1 ⟨rfl, b1⟩
         have B1 := (Blk.new w _ _).under b1
         have h2 := h1.below b1
         obtain ⟨u0, u1, u2, u3, u4, u5, u6, u7, u8⟩ := B1.nine)
      | (go_at_call 23; (with_reducible refine (C2.out _ h2).mono ?_); rintro e w2 ⟨rfl, b2⟩))
    go_ret
    exact ⟨ret_bool (by rw [hv.out]; rfl), below_next (below_of_alloc b1) b2⟩
set_option maxHeartbeats 800000 in
theorem implIsOpen_any (t : Tm) (l : Lt) (w : World) (h : Md w t l) (hw : t.wt ≤ 1048576) :
    Calls Try.prog 26 #[.agg #[.int .i64 t.kind, .string t.name, .string t.other, .int .i64 t.n, .int .i64 t.type.kind, .slice l.ta l.tn l.tc, .int .i64 t.res.kind, .slice l.ra l.rn l.rc, .slice l.aa l.an l.ac]] w fun e w' => e = .returned (.bool t.opened) ∧ Below w.heap.size w w' := by
  have h1 : Md (w.alloc (.cells #[.int .i64 t.kind, .string t.name, .string t.other, .int .i64 t.n, .int .i64 t.type.kind, .slice l.ta l.tn l.tc, .int .i64 t.res.kind, .slice l.ra l.rn l.rc, .slice l.aa l.an l.ac] 42)) t l := h.below (below_new _ _)
  have C := implIsClosed_any t l _ h1 hw
  have hv : t.opened = (!t.closed && t.levelsOk 0) := Bool.and_comm _ _
  cases ho : t.closed with
  | true =>
    rw [ho] at C hv
    replace C := hide C
    replace hv := hide hv
    clear ho
    go_enter Try.func26, Try.ntmps26
    go_wp2_with (go_at_call 24; (with_reducible refine C.out.mono ?_); rintro e w1 ⟨rfl, b1⟩)
    go_ret
    exact ⟨ret_bool (by rw [hv.out]; rfl), below_of_alloc b1⟩
  | false =>
    have C2 := fun W hW => implLevelsOk_any t l 0 W hW hw
    rw [ho] at C hv
    replace C := hide C
    replace C2 := hide C2
    replace hv := hide hv
    clear ho
    go_enter Try.func26, Try.ntmps26
    go_wp2_with (first
      | (go_at_call 24; (with_reducible refine C.out.mono ?_); rintro e w1 ⟨rfl, b1⟩
         have B1 := (Blk.new w _ _).under b1
         have h2 := h1.below b1
         obtain ⟨u0, u1, u2, u3, u4, u5, u6, u7, u8⟩ := B1.nine)
      | (go_at_call 46; (with_reducible refine (C2.out _ h2).mono ?_); rintro e w2 ⟨rfl, b2⟩))
    go_ret
    exact ⟨ret_bool (by rw [hv.out]; rfl), below_next (below_of_alloc b1) b2⟩
end Go.Proofs.Ytknlbhclfeldbaa
