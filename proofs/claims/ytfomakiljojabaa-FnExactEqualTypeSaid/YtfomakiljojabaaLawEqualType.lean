/-
  The law FnExactEqualType, walked: the program's EqualType and the reference's give the same answer at every two types.
-/
import Derived.Test.YtfomakiljojabaaSz
import Derived.Test.YtfomakiljojabaaTo
import Derived.Test.YtfomakiljojabaaEq
import Derived.Test.YtfomakiljojabaaEqualTy
import Derived.Deep.RegionHeld3
namespace Go.Proofs.Ytfomakiljojabaa.fnExactEqualType
open Go.RowKit
set_option linter.unusedVariables false
set_option linter.unusedSimpArgs false

set_option maxHeartbeats 1600000 in
theorem walk (t : Ty) (c0 c1 : Value) (u : Ty) (d0 d1 : Value) (w : World) (h : Rd w t c0 c1) (k : Rd w u d0 d1) :
    Calls Try.prog 5 #[.agg #[c0, c1], .agg #[d0, d1]] w fun e w' => e = .returned (.bool true) ∧ Below w.heap.size w w' := by
  by_cases hs : Ty.sizes t.args ≤ 1048576
  · have hp : 0 ≤ lessN (Ty.sizes t.args) 1048576 ∧ lessN (Ty.sizes t.args) 1048576 ≤ 1048576 := by rw [lessN_pos (by omega)]; omega
    obtain ⟨hp, hp'⟩ := hp
    by_cases hu : (Ty.sizes u.args : Int) ≤ lessN (Ty.sizes t.args) 1048576
    · have hu' : Ty.sizes u.args ≤ 1048576 := by omega
      have hq : 0 ≤ lessN (Ty.sizes u.args) (lessN (Ty.sizes t.args) 1048576) := by rw [lessN_pos hu]; omega
      go_enter Try.func5, Try.ntmps5
      go_wp2_with fail
      refine (szType_any t _ _ _ _ (h.below (by repeat (first | exact Below.refl _ _ | assumption | refine Below.drew ?_ | refine Below.alloc ?_ (by first | omega | (simp; done) | (simp; omega)) _ | refine Below.setCell ?_ (by first | omega | (simp; done) | (simp; omega)) _))) (by omega) (by omega)).mono ?_
      rintro e w1 ⟨rfl, b1⟩
      have q1 : Below w.heap.size w w1 := (by repeat (first | exact Below.refl _ _ | refine Below.drew ?_ | refine Below.alloc ?_ (by first | omega | (simp; done) | (simp; omega)) _ | refine Below.setCell ?_ (by first | omega | (simp; done) | (simp; omega)) _ | refine Below.trans ?_ (Below.mono b1 (by first | omega | (simp; done) | (simp; omega)))))
      have A1 := Blk.under ((Blk.new w 24 #[c0, c1]).alloc (.cells #[d0, d1] 24)) b1
      have B1 := Blk.under (Blk.new2 w (.cells #[c0, c1] 24) 24 #[d0, d1]) b1
      obtain ⟨u0, u1⟩ := A1.two
      obtain ⟨v0, v1⟩ := B1.two
      go_wp2_with fail
      refine (szType_any u _ _ _ _ (k.below q1) hp hp').mono ?_
      rintro e w2 ⟨rfl, b2⟩
      have q2 := below_next q1 b2
      have A2 := A1.under b2
      have B2 := B1.under b2
      clear u0 u1 v0 v1
      obtain ⟨u0, u1⟩ := A2.two
      obtain ⟨v0, v1⟩ := B2.two
      go_wp2_with fail
      have h2 : Rd w2.drew t c0 c1 := (h.below q2).below (below_drew _)
      have k2 : Rd w2.drew u d0 d1 := (k.below q2).below (below_drew _)
      go_region_held3 (fun W => W.cell? ⟨w.heap.size, 0, none⟩ = some c0 ∧ W.cell? ⟨w.heap.size, 1, none⟩ = some c1 ∧ W.cell? ⟨w.heap.size + 1, 0, none⟩ = some d0 ∧ W.cell? ⟨w.heap.size + 1, 1, none⟩ = some d1)
        (first | exact ⟨u0, u1, v0, v1⟩ | exact ⟨A3.two.1, A3.two.2, B3.two.1, B3.two.2⟩ | exact ⟨A4.two.1, A4.two.2, B4.two.1, B4.two.2⟩ | exact ⟨A5.two.1, A5.two.2, B5.two.1, B5.two.2⟩)
        (first
          | (go_at_call 14; (with_reducible refine (toType_any t _ _ _ h2 hs).mono ?_); rintro e w3 ⟨x0, x1, fx, rfl, r3, -, -, b3⟩
             have A3 : Blk w3 _ _ _ := Blk.under (w := w2.drew) A2 b3
             have B3 : Blk w3 _ _ _ := Blk.under (w := w2.drew) B2 b3
             have k3 := k2.below b3)
          | (go_at_call 14; (with_reducible refine (toType_any u _ _ _ k3 hu').mono ?_); rintro e w4 ⟨y0, y1, fy, rfl, r4, -, -, b4⟩
             have A4 := A3.under b4
             have B4 := B3.under b4
             have r4' := r3.below b4)
          | (go_at_call 19; (with_reducible refine (specEqualType_any t u _ _ _ _ _ r4'.rd r4.rd).mono ?_); rintro e w5 ⟨rfl, b5⟩
             have A5 := A4.under b5
             have B5 := B4.under b5))
      have q5 := below_next (below_next (below_next (below_next q2 (below_drew _)) b3) b4) b5
      clear u0 u1 v0 v1
      obtain ⟨u0, u1⟩ := A5.two
      obtain ⟨v0, v1⟩ := B5.two
      go_wp2_with fail
      refine (toType_any t _ _ _ (h.below q5) hs).mono ?_
      rintro e w6 ⟨x0, x1, fx, rfl, r6, -, -, b6⟩
      obtain ⟨xa, xn, xc, rfl, rfl, -, -⟩ := r6.rd.shape
      have q6 := below_next q5 b6
      have A6 := A5.under b6
      have B6 := B5.under b6
      clear u0 u1 v0 v1
      obtain ⟨u0, u1⟩ := A6.two
      obtain ⟨v0, v1⟩ := B6.two_new
      go_wp2_with fail
      have b6' := below_new w6 (.cells #[.int .i64 t.kind, .slice xa xn xc] 29)
      refine (toType_any u _ _ _ ((k.below q6).below b6') hu').mono ?_
      rintro e w7 ⟨y0, y1, fy, rfl, r7, -, -, b7⟩
      obtain ⟨ya, yn, yc, rfl, rfl, -, -⟩ := r7.rd.shape
      have X7 := Blk.under (Blk.new w6 29 #[.int .i64 t.kind, .slice xa xn xc]) b7
      have q7 := below_next (below_next q6 b6') b7
      have A7 := (A6.under b6').under b7
      have B7 := (B6.under b6').under b7
      have x7 := ((r6.below b6').below b7).rd
      clear u0 u1 v0 v1
      obtain ⟨u0, u1⟩ := A7.two
      obtain ⟨v0, v1⟩ := B7.two
      obtain ⟨s0, s1⟩ := X7.two_new
      go_wp2_with fail
      have b7' := below_new w7 (.cells #[.int .i64 u.kind, .slice ya yn yc] 29)
      refine (implEqualType_any t u _ _ _ _ _ (x7.below b7') (r7.rd.below b7')).mono ?_
      rintro e w8 ⟨rfl, b8⟩
      have Y8 := Blk.under (Blk.new w7 29 #[.int .i64 u.kind, .slice ya yn yc]) b8
      have q8 := below_next (below_next q7 b7') b8
      have A8 := (A7.under b7').under b8
      have B8 := (B7.under b7').under b8
      have X8 := (X7.under b7').under b8
      have x8 := (x7.below b7').below b8
      have y8 := (r7.rd.below b7').below b8
      clear u0 u1 v0 v1 s0 s1
      obtain ⟨u0, u1⟩ := A8.two
      obtain ⟨s0, s1⟩ := X8.two
      go_wp2_with fail
      have h8 : Rd w8.drew t c0 c1 := (h.below q8).below (below_drew _)
      have x8' := x8.below (below_drew _)
      have y8' := y8.below (below_drew _)
      go_region_held3 (fun W => W.cell? ⟨w6.heap.size, 0, none⟩ = some (.int .i64 t.kind) ∧ W.cell? ⟨w6.heap.size, 1, none⟩ = some (.slice xa xn xc) ∧ W.cell? ⟨w.heap.size, 0, none⟩ = some c0 ∧ W.cell? ⟨w.heap.size, 1, none⟩ = some c1)
        (first | exact ⟨s0, s1, u0, u1⟩ | exact ⟨X9.two.1, X9.two.2, A9.two.1, A9.two.2⟩ | exact ⟨X10.two.1, X10.two.2, A10.two.1, A10.two.2⟩)
        (first
          | (go_at_call 14; (with_reducible refine (toType_any t _ _ _ h8 hs).mono ?_); rintro e w9 ⟨m0, m1, fm, rfl, r9, -, -, b9⟩
             have X9 : Blk w9 _ _ _ := Blk.under (w := w8.drew) X8 b9
             have A9 : Blk w9 _ _ _ := Blk.under (w := w8.drew) A8 b9
             have x9 := x8'.below b9)
          | (go_at_call 16; (with_reducible refine (eqType_any t _ _ _ _ _ x9 r9.rd).mono ?_); rintro e w10 ⟨rfl, b10⟩
             have X10 := X9.under b10
             have A10 := A9.under b10))
      have q10 := below_next (below_next (below_next q8 (below_drew _)) b9) b10
      have B10 : Blk w10 _ _ _ := Blk.under (Blk.under (w := w8.drew) B8 b9) b10
      have Y10 : Blk w10 _ _ _ := Blk.under (Blk.under (w := w8.drew) Y8 b9) b10
      have y10 := (y8'.below b9).below b10
      clear u0 u1 s0 s1
      obtain ⟨v0, v1⟩ := B10.two
      obtain ⟨s0, s1⟩ := Y10.two
      go_wp2_with fail
      have k10 : Rd w10.drew u d0 d1 := (k.below q10).below (below_drew _)
      have y10' := y10.below (below_drew _)
      go_region_held3 (fun W => W.cell? ⟨w7.heap.size, 0, none⟩ = some (.int .i64 u.kind) ∧ W.cell? ⟨w7.heap.size, 1, none⟩ = some (.slice ya yn yc) ∧ W.cell? ⟨w.heap.size + 1, 0, none⟩ = some d0 ∧ W.cell? ⟨w.heap.size + 1, 1, none⟩ = some d1)
        (first | exact ⟨s0, s1, v0, v1⟩ | exact ⟨Y11.two.1, Y11.two.2, B11.two.1, B11.two.2⟩ | exact ⟨Y12.two.1, Y12.two.2, B12.two.1, B12.two.2⟩)
        (first
          | (go_at_call 14; (with_reducible refine (toType_any u _ _ _ k10 hu').mono ?_); rintro e w11 ⟨m0, m1, fm, rfl, r11, -, -, b11⟩
             have Y11 : Blk w11 _ _ _ := Blk.under (w := w10.drew) Y10 b11
             have B11 : Blk w11 _ _ _ := Blk.under (w := w10.drew) B10 b11
             have y11 := y10'.below b11)
          | (go_at_call 16; (with_reducible refine (eqType_any u _ _ _ _ _ y11 r11.rd).mono ?_); rintro e w12 ⟨rfl, b12⟩
             have Y12 := Y11.under b12
             have B12 := B11.under b12))
      go_wp2_with fail
      go_ret
      exact ⟨rfl, below_next (below_next (below_next q10 (below_drew _)) b11) b12⟩
    · have hq : lessN (Ty.sizes u.args) (lessN (Ty.sizes t.args) 1048576) < 0 := by rw [lessN_neg (by omega)]; omega
      go_enter Try.func5, Try.ntmps5
      go_wp2_with fail
      refine (szType_any t _ _ _ _ (h.below (by repeat (first | exact Below.refl _ _ | assumption | refine Below.drew ?_ | refine Below.alloc ?_ (by first | omega | (simp; done) | (simp; omega)) _ | refine Below.setCell ?_ (by first | omega | (simp; done) | (simp; omega)) _))) (by omega) (by omega)).mono ?_
      rintro e w1 ⟨rfl, b1⟩
      have q1 : Below w.heap.size w w1 := (by repeat (first | exact Below.refl _ _ | refine Below.drew ?_ | refine Below.alloc ?_ (by first | omega | (simp; done) | (simp; omega)) _ | refine Below.setCell ?_ (by first | omega | (simp; done) | (simp; omega)) _ | refine Below.trans ?_ (Below.mono b1 (by first | omega | (simp; done) | (simp; omega)))))
      have B1 := Blk.under (Blk.new2 w (.cells #[c0, c1] 24) 24 #[d0, d1]) b1
      obtain ⟨v0, v1⟩ := B1.two
      go_wp2_with fail
      refine (szType_any u _ _ _ _ (k.below q1) hp hp').mono ?_
      rintro e w2 ⟨rfl, b2⟩
      go_wp2_with fail
      go_ret
      exact ⟨rfl, below_next q1 b2⟩
  · have hp : lessN (Ty.sizes t.args) 1048576 < 0 := by rw [lessN_neg (by omega)]; omega
    go_enter Try.func5, Try.ntmps5
    go_wp2_with (go_at_call 12; refine (szType_any t _ _ _ _ (h.below (by repeat (first | exact Below.refl _ _ | assumption | refine Below.drew ?_ | refine Below.alloc ?_ (by first | omega | (simp; done) | (simp; omega)) _ | refine Below.setCell ?_ (by first | omega | (simp; done) | (simp; omega)) _))) (by omega) (by omega)).mono ?_; rintro e w1 ⟨rfl, b1⟩)
    go_ret
    exact ⟨rfl, (by repeat (first | exact Below.refl _ _ | refine Below.drew ?_ | refine Below.alloc ?_ (by first | omega | (simp; done) | (simp; omega)) _ | refine Below.setCell ?_ (by first | omega | (simp; done) | (simp; omega)) _ | refine Below.trans ?_ (Below.mono b1 (by first | omega | (simp; done) | (simp; omega)))))⟩
end Go.Proofs.Ytfomakiljojabaa.fnExactEqualType
