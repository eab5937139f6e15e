/-
  The walks of IsValidType in both texts.
-/
import Derived.Test.YtmdmnchnkfjpjaaLeftTy
import Derived.Test.YtmdmnchnkfjpjaaDepthTy
import Derived.Test.YtmdmnchnkfjpjaaSizeTy
import Derived.Test.YtmdmnchnkfjpjaaAllTy
namespace Go.Proofs.Ytmdmnchnkfjpjaa
open Go.RowKit
set_option linter.unusedVariables false
set_option linter.unusedSimpArgs false

/-- A valid type of the language. -/
def Ty.valid (t : Ty) : Bool := decide (t.size ≤ 30) && (decide (t.depth ≤ 8) && t.all Ty.formed)

set_option maxHeartbeats 400000 in
theorem specIsValidType_any (t : Ty) (c0 c1 : Value) (w : World) (h : Rd w t c0 c1) :
    Calls Try.prog 44 #[.agg #[c0, c1]] w fun e w' => e = .returned (.bool t.valid) ∧ Below w.heap.size w w' := by
  by_cases hs : t.size ≤ 30
  · have hp : 0 ≤ lessN t.size 30 := by rw [lessN_pos (by omega)]; omega
    have hz : Ty.sizes t.args ≤ 1048576 := by have := t.size_eq; omega
    by_cases hd : t.depth ≤ 8
    · have hv := hide (show t.valid = t.all Ty.formed by simp [Ty.valid, hs, hd])
      go_enter Try.func44, Try.ntmps44
      go_wp2_with fail
      refine (l3Left_any t _ _ _ _ (h.below (by repeat (first | exact Below.refl _ _ | assumption | refine Below.drew ?_ | refine below_drewN ?_ _ | refine Below.alloc ?_ (by first | omega | (simp; done) | (simp; omega)) _ | refine Below.setCell ?_ (by first | omega | (simp; done) | (simp; omega)) _))) (by omega) (by omega)).mono ?_
      rintro e w1 ⟨rfl, b1⟩
      have B1 := (Blk.new w _ _).under b1
      obtain ⟨u0, u1⟩ := B1.two
      go_wp2_with fail
      refine (specDepthOfType_any t _ _ _ (h.below (below_of_alloc b1)) hz).mono ?_
      rintro e w2 ⟨rfl, b2⟩
      have B2 := B1.under b2
      clear u0 u1
      obtain ⟨u0, u1⟩ := B2.two
      go_wp2_with fail
      refine (l3Form_any t _ _ _ ((h.below (below_of_alloc b1)).below b2)).mono ?_
      rintro e w3 ⟨rfl, b3⟩
      go_wp2_with fail
      go_ret
      exact ⟨ret_bool hv.out.symm, below_next (below_next (below_of_alloc b1) b2) b3⟩
    · have hv := hide (show t.valid = false by simp [Ty.valid, hd])
      go_enter Try.func44, Try.ntmps44
      go_wp2_with fail
      refine (l3Left_any t _ _ _ _ (h.below (by repeat (first | exact Below.refl _ _ | assumption | refine Below.drew ?_ | refine below_drewN ?_ _ | refine Below.alloc ?_ (by first | omega | (simp; done) | (simp; omega)) _ | refine Below.setCell ?_ (by first | omega | (simp; done) | (simp; omega)) _))) (by omega) (by omega)).mono ?_
      rintro e w1 ⟨rfl, b1⟩
      have B1 := (Blk.new w _ _).under b1
      obtain ⟨u0, u1⟩ := B1.two
      go_wp2_with fail
      refine (specDepthOfType_any t _ _ _ (h.below (below_of_alloc b1)) hz).mono ?_
      rintro e w2 ⟨rfl, b2⟩
      go_wp2_with fail
      go_ret
      exact ⟨ret_bool hv.out.symm, below_next (below_of_alloc b1) b2⟩
  · have hp : lessN t.size 30 < 0 := by rw [lessN_neg (by omega)]; omega
    have hv := hide (show t.valid = false by simp [Ty.valid, hs])
    go_enter Try.func44, Try.ntmps44
    go_wp2_with fail
    refine (l3Left_any t _ _ _ _ (h.below (by repeat (first | exact Below.refl _ _ | assumption | refine Below.drew ?_ | refine below_drewN ?_ _ | refine Below.alloc ?_ (by first | omega | (simp; done) | (simp; omega)) _ | refine Below.setCell ?_ (by first | omega | (simp; done) | (simp; omega)) _))) (by omega) (by omega)).mono ?_
    rintro e w1 ⟨rfl, b1⟩
    go_wp2_with fail
    go_ret
    exact ⟨ret_bool hv.out.symm, below_of_alloc b1⟩

set_option maxHeartbeats 400000 in
theorem implIsValidType_any (t : Ty) (c0 c1 : Value) (w : World) (h : Rd w t c0 c1) (hz : Ty.sizes t.args ≤ 1048576) :
    Calls Try.prog 58 #[.agg #[c0, c1]] w fun e w' => e = .returned (.bool t.valid) ∧ Below w.heap.size w w' := by
  by_cases hs : t.size ≤ 30
  · by_cases hd : t.depth ≤ 8
    · have hv := hide (show t.valid = t.all Ty.formed by simp [Ty.valid, hs, hd])
      go_enter Try.func58, Try.ntmps58
      go_wp2_with fail
      refine (implSizeOfType_any t _ _ _ (h.below (by repeat (first | exact Below.refl _ _ | assumption | refine Below.drew ?_ | refine below_drewN ?_ _ | refine Below.alloc ?_ (by first | omega | (simp; done) | (simp; omega)) _ | refine Below.setCell ?_ (by first | omega | (simp; done) | (simp; omega)) _))) hz).mono ?_
      rintro e w1 ⟨rfl, b1⟩
      have B1 := (Blk.new w _ _).under b1
      obtain ⟨u0, u1⟩ := B1.two
      go_wp2_with fail
      refine (implDepthOfType_any t _ _ _ (h.below (below_of_alloc b1)) hz).mono ?_
      rintro e w2 ⟨rfl, b2⟩
      have B2 := B1.under b2
      clear u0 u1
      obtain ⟨u0, u1⟩ := B2.two
      go_wp2_with fail
      refine (allTypes_validLit_any t _ _ _ ((h.below (below_of_alloc b1)).below b2)).mono ?_
      rintro e w3 ⟨rfl, b3⟩
      go_wp2_with fail
      go_ret
      exact ⟨ret_bool hv.out.symm, below_next (below_next (below_of_alloc b1) b2) b3⟩
    · have hv := hide (show t.valid = false by simp [Ty.valid, hd])
      go_enter Try.func58, Try.ntmps58
      go_wp2_with fail
      refine (implSizeOfType_any t _ _ _ (h.below (by repeat (first | exact Below.refl _ _ | assumption | refine Below.drew ?_ | refine below_drewN ?_ _ | refine Below.alloc ?_ (by first | omega | (simp; done) | (simp; omega)) _ | refine Below.setCell ?_ (by first | omega | (simp; done) | (simp; omega)) _))) hz).mono ?_
      rintro e w1 ⟨rfl, b1⟩
      have B1 := (Blk.new w _ _).under b1
      obtain ⟨u0, u1⟩ := B1.two
      go_wp2_with fail
      refine (implDepthOfType_any t _ _ _ (h.below (below_of_alloc b1)) hz).mono ?_
      rintro e w2 ⟨rfl, b2⟩
      go_wp2_with fail
      go_ret
      exact ⟨ret_bool hv.out.symm, below_next (below_of_alloc b1) b2⟩
  · have hv := hide (show t.valid = false by simp [Ty.valid, hs])
    go_enter Try.func58, Try.ntmps58
    go_wp2_with fail
    refine (implSizeOfType_any t _ _ _ (h.below (by repeat (first | exact Below.refl _ _ | assumption | refine Below.drew ?_ | refine below_drewN ?_ _ | refine Below.alloc ?_ (by first | omega | (simp; done) | (simp; omega)) _ | refine Below.setCell ?_ (by first | omega | (simp; done) | (simp; omega)) _))) hz).mono ?_
    rintro e w1 ⟨rfl, b1⟩
    go_wp2_with fail
    go_ret
    exact ⟨ret_bool hv.out.symm, below_of_alloc b1⟩
theorem specIsValidType_law (t : Ty) (c0 c1 : Value) (w : World) (h : Rd w t c0 c1) (hz : Ty.sizes t.args ≤ 1048576) :
    Calls Try.prog 44 #[.agg #[c0, c1]] w fun e w' => e = .returned (.bool t.valid) ∧ Below w.heap.size w w' := specIsValidType_any t c0 c1 w h
theorem implIsValidType_law (t : Ty) (c0 c1 : Value) (w : World) (h : Rd w t c0 c1) (hz : Ty.sizes t.args ≤ 1048576) :
    Calls Try.prog 58 #[.agg #[c0, c1]] w fun e w' => e = .returned (.bool t.valid) ∧ Below w.heap.size w w' := implIsValidType_any t c0 c1 w h hz
end Go.Proofs.Ytmdmnchnkfjpjaa
