/-
  The law FnExactFormatType, walked: the program's FormatType and the reference's give the same text.
-/
import Derived.Test.YtfomakiljojabaaSz
import Derived.Test.YtfomakiljojabaaTo
import Derived.Test.YtfomakiljojabaaEq
import Derived.Test.YtfomakiljojabaaFormatTy
import Derived.Deep.RegionHeld3
namespace Go.Proofs.Ytfomakiljojabaa.fnExactFormatType
open Go.RowKit
set_option linter.unusedVariables false

set_option maxHeartbeats 400000 in
theorem walk (t : Ty) (c0 c1 : Value) (w : World) (h : Rd w t c0 c1) :
    Calls Try.prog 10 #[.agg #[c0, c1]] w fun e w' => e = .returned (.bool true) ∧ Below w.heap.size w w' := by
  by_cases hs : Ty.sizes t.args ≤ 1048576
  · have hp : 0 ≤ lessN (Ty.sizes t.args) 1048576 := by rw [lessN_pos (by omega)]; omega
    go_enter Try.func10, Try.ntmps10
    go_wp2_with fail
    refine (szType_any t _ _ _ _ (h.below (by repeat (first | exact Below.refl _ _ | assumption | refine Below.drew ?_ | refine below_drewN ?_ _ | refine Below.alloc ?_ (by first | omega | (simp; done) | (simp; omega)) _ | refine Below.setCell ?_ (by first | omega | (simp; done) | (simp; omega)) _))) (by omega) (by omega)).mono ?_
    rintro e w1 ⟨rfl, b1⟩
    have B1 := (Blk.new w _ _).under b1
    have h1 := h.below (below_of_alloc b1)
    obtain ⟨u0, u1⟩ := B1.two
    go_wp2_with fail
    refine (toType_any t _ _ _ h1 hs).mono ?_
    rintro e w2 ⟨d0, d1, fp, rfl, r2, -, -, b2⟩
    have B2 := B1.under b2
    have h2 := h1.below b2
    clear u0 u1
    obtain ⟨u0, u1⟩ := B2.two
    go_wp2_with fail
    refine (specFormatType_any t _ _ _ ⟨fp, r2⟩ hs).mono ?_
    rintro e w3 ⟨rfl, b3⟩
    have B3 := B2.under b3
    have h3 := h2.below b3
    clear u0 u1
    obtain ⟨u0, u1⟩ := B3.two
    go_wp2_with fail
    refine (toType_any t _ _ _ h3 hs).mono ?_
    rintro e w4 ⟨x0, x1, fq, rfl, r4, -, -, b4⟩
    obtain ⟨xa, xn, xc, rfl, rfl, -, -⟩ := Rd.shape ⟨fq, r4⟩
    have B4 := B3.under b4
    have h4 := h3.below b4
    clear u0 u1
    obtain ⟨u0, u1⟩ := B4.two
    go_wp2_with fail
    have x5 : Rd (w4.alloc (.cells #[.int .i64 t.kind, .slice xa xn xc] 29)) t (.int .i64 t.kind) (.slice xa xn xc) := Rd.below ⟨fq, r4⟩ (by repeat (first | exact Below.refl _ _ | assumption | refine Below.drew ?_ | refine below_drewN ?_ _ | refine Below.alloc ?_ (by first | omega | (simp; done) | (simp; omega)) _ | refine Below.setCell ?_ (by first | omega | (simp; done) | (simp; omega)) _))
    refine (implFormatType_any t _ _ _ x5 hs).mono ?_
    rintro e w6 ⟨rfl, b6⟩
    have X6 := (Blk.new w4 _ _).under b6
    have x6 := x5.below b6
    have B6 := B4.under (below_of_alloc b6)
    have h6 := h4.below (below_of_alloc b6)
    clear u0 u1
    obtain ⟨u0, u1⟩ := B6.two
    obtain ⟨v0, v1⟩ := X6.two
    go_wp2_with fail
    have h6' : Rd w6.drew t c0 c1 := h6.below (Below.drew (Below.refl _ _))
    have x6' : Rd w6.drew t (.int .i64 t.kind) (.slice xa xn xc) := x6.below (Below.drew (Below.refl _ _))
    go_region_held3 (fun W => W.cell? ⟨w4.heap.size, 0, none⟩ = some (.int .i64 t.kind) ∧ W.cell? ⟨w4.heap.size, 1, none⟩ = some (.slice xa xn xc) ∧ W.cell? ⟨w.heap.size, 0, none⟩ = some c0 ∧ W.cell? ⟨w.heap.size, 1, none⟩ = some c1)
      (first | exact ⟨v0, v1, u0, u1⟩ | exact ⟨X7.two.1, X7.two.2, B7.two.1, B7.two.2⟩ | exact ⟨X8.two.1, X8.two.2, B8.two.1, B8.two.2⟩)
      (first
        | (go_at_call 14; refine (toType_any t _ _ _ h6' hs).mono ?_; rintro e w7 ⟨y0, y1, fr, rfl, r7, -, -, b7⟩
           have X7 : Blk w7 _ _ _ := Blk.under (w := w6.drew) X6 b7
           have B7 : Blk w7 _ _ _ := Blk.under (w := w6.drew) B6 b7
           have x7 := x6'.below b7)
        | (go_at_call 16; refine (eqType_any t _ _ _ _ _ x7 ⟨fr, r7⟩).mono ?_; rintro e w8 ⟨rfl, b8⟩
           have X8 := X7.under b8
           have B8 := B7.under b8))
    go_wp2_with fail
    go_ret
    exact ⟨rfl, below_next (below_next (below_next (below_next (below_next (below_next (below_next (below_of_alloc b1) b2) b3) b4) (below_of_alloc b6)) (below_drew w6)) b7) b8⟩
  · have hp : lessN (Ty.sizes t.args) 1048576 < 0 := by rw [lessN_neg (by omega)]; omega
    go_enter Try.func10, Try.ntmps10
    go_wp2_with (go_at_call 12; refine (szType_any t _ _ _ _ (h.below (by repeat (first | exact Below.refl _ _ | assumption | refine Below.drew ?_ | refine below_drewN ?_ _ | refine Below.alloc ?_ (by first | omega | (simp; done) | (simp; omega)) _ | refine Below.setCell ?_ (by first | omega | (simp; done) | (simp; omega)) _))) (by omega) (by omega)).mono ?_; rintro e w1 ⟨rfl, b1⟩)
    go_ret
    exact ⟨rfl, below_of_alloc b1⟩
end Go.Proofs.Ytfomakiljojabaa.fnExactFormatType
