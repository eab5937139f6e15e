/-
  The walks of FormatType in both texts.
-/
import Derived.Test.YtfomakiljojabaaTextTy
import Derived.Test.YtfomakiljojabaaValidTy
namespace Go.Proofs.Ytfomakiljojabaa
open Go.RowKit
set_option linter.unusedVariables false
set_option linter.unusedSimpArgs false

/-- The representation of a valid type, nothing for others. -/
def Ty.fmt (t : Ty) : List UInt8 := if t.valid = true then t.text else []
theorem Ty.valid_all {t : Ty} (h : t.valid = true) : t.all Ty.formed = true ∧ t.size ≤ 30 := by
  simp only [Ty.valid, Bool.and_eq_true, decide_eq_true_eq] at h
  exact ⟨h.2.2, h.1⟩

set_option maxHeartbeats 400000 in
theorem specFormatType_any (t : Ty) (c0 c1 : Value) (w : World) (h : Rd w t c0 c1) (hz : Ty.sizes t.args ≤ 1048576) :
    Calls Try.prog 31 #[.agg #[c0, c1]] w fun e w' => e = .returned (.string ⟨t.fmt.toArray⟩) ∧ Below w.heap.size w w' := by
  have h1 : Rd (w.alloc (.cells #[c0, c1] 29)) t c0 c1 := h.below (below_new _ _)
  have C := specIsValidType_law t c0 c1 (w.alloc (.cells #[c0, c1] 29)) h1 hz
  cases hv : t.valid with
  | true =>
    have hf := hide (show t.fmt = t.text by simp [Ty.fmt, hv])
    obtain ⟨ha, hs⟩ := Ty.valid_all hv
    replace ha := hide ha
    rw [hv] at C
    replace C := hide C
    clear hv
    go_enter Try.func31, Try.ntmps31
    go_wp2_with fail
    refine C.out.mono ?_
    rintro e w1 ⟨rfl, b1⟩
    have B1 := (Blk.new w _ _).under b1
    obtain ⟨u0, u1⟩ := B1.two
    go_wp2_with fail
    refine (l4Text_any t _ _ _ (h1.below b1) ha.out (by omega)).mono ?_
    rintro e w2 ⟨rfl, b2⟩
    go_wp2_with fail
    go_ret
    exact ⟨ret_string (by rw [hf.out]), below_next (below_of_alloc b1) b2⟩
  | false =>
    have hf := hide (show t.fmt = [] by simp [Ty.fmt, hv])
    rw [hv] at C
    replace C := hide C
    clear hv
    go_enter Try.func31, Try.ntmps31
    go_wp2_with fail
    refine C.out.mono ?_
    rintro e w1 ⟨rfl, b1⟩
    go_wp2_with fail
    go_ret
    exact ⟨ret_string (by rw [hf.out]), below_of_alloc b1⟩
set_option maxHeartbeats 400000 in
theorem implFormatType_any (t : Ty) (c0 c1 : Value) (w : World) (h : Rd w t c0 c1) (hz : Ty.sizes t.args ≤ 1048576) :
    Calls Try.prog 32 #[.agg #[c0, c1]] w fun e w' => e = .returned (.string ⟨t.fmt.toArray⟩) ∧ Below w.heap.size w w' := by
  have h1 : Rd (w.alloc (.cells #[c0, c1] 29)) t c0 c1 := h.below (below_new _ _)
  have C := implIsValidType_law t c0 c1 (w.alloc (.cells #[c0, c1] 29)) h1 hz
  cases hv : t.valid with
  | true =>
    have hf := hide (show t.fmt = t.text by simp [Ty.fmt, hv])
    obtain ⟨ha, hs⟩ := Ty.valid_all hv
    replace ha := hide ha
    rw [hv] at C
    replace C := hide C
    clear hv
    go_enter Try.func32, Try.ntmps32
    go_wp2_with fail
    refine C.out.mono ?_
    rintro e w1 ⟨rfl, b1⟩
    have B1 := (Blk.new w _ _).under b1
    obtain ⟨u0, u1⟩ := B1.two
    go_wp2_with fail
    refine (implText_any t _ _ _ (h1.below b1) ha.out (by omega)).mono ?_
    rintro e w2 ⟨rfl, b2⟩
    go_wp2_with fail
    go_ret
    exact ⟨ret_string (by rw [hf.out]), below_next (below_of_alloc b1) b2⟩
  | false =>
    have hf := hide (show t.fmt = [] by simp [Ty.fmt, hv])
    rw [hv] at C
    replace C := hide C
    clear hv
    go_enter Try.func32, Try.ntmps32
    go_wp2_with fail
    refine C.out.mono ?_
    rintro e w1 ⟨rfl, b1⟩
    go_wp2_with fail
    go_ret
    exact ⟨ret_string (by rw [hf.out]), below_of_alloc b1⟩
end Go.Proofs.Ytfomakiljojabaa
