/-
  The law FnExactEraseType: the program's EraseType and the reference's give equal types for every type, the argument is left as it was, and the result lies in memory of its own. No condition.
-/
import Derived.Test.YtfomakiljojabaaHeld
import Derived.Test.YtfomakiljojabaaEraseI
import Derived.Test.YtfomakiljojabaaSz
import Derived.Test.YtfomakiljojabaaEq
import Derived.Deep.RegionHeld3
namespace Go.Proofs.Ytfomakiljojabaa.fnExactEraseType
open Go.RowKit
set_option linter.unusedVariables false
set_option linter.unusedSimpArgs false

set_option maxHeartbeats 1600000 in
theorem walk (t : Ty) (c0 c1 : Value) (w : World) (h : Rd w t c0 c1) :
    Calls Try.prog 9 #[.agg #[c0, c1]] w fun e w' => e = .returned (.bool true) ∧ Below w.heap.size w w' := by
  by_cases hs : Ty.sizes t.args ≤ 1048576
  · have hp : 0 ≤ lessN (Ty.sizes t.args) 1048576 := by rw [lessN_pos (by omega)]; omega
    have he := Ty.erase_sizes t
    go_enter Try.func9, Try.ntmps9
    go_wp2_with fail
    refine (szType_any t _ _ _ _ (h.below (by repeat (first | exact Below.refl _ _ | assumption | refine Below.drew ?_ | refine below_drewN ?_ _ | refine Below.alloc ?_ (by first | omega | (simp; done) | (simp; omega)) _ | refine Below.setCell ?_ (by first | omega | (simp; done) | (simp; omega)) _))) (by omega) (by omega)).mono ?_
    rintro e w1 ⟨rfl, b1⟩
    have B1 := (Blk.new w _ _).under b1
    have h1 := h.below (below_of_alloc b1)
    obtain ⟨u0, u1⟩ := B1.two
    go_wp2_with fail
    refine (toType_any t _ _ _ h1 hs).mono ?_
    rintro e w2 ⟨d0, d1, fp, rfl, r2, -, -, b2⟩
    have B2 := B1.under b2
    have h2 := h1.below b2
    clear u0 u1
    obtain ⟨u0, u1⟩ := B2.two
    go_wp2_with fail
    refine (specEraseType_any t _ _ _ ⟨fp, r2⟩ hs).mono ?_
    rintro e w3 ⟨p0, p1, fw, rfl, rw3, -, ow3, b3⟩
    obtain ⟨pa, pn, pc, rfl, rfl, -, -⟩ := rw3.rd.shape
    have B3 := B2.under b3
    obtain ⟨f3, r3⟩ := h2.below b3
    have l3 := RT.lt _ _ _ _ r3
    have lw := RT.lt _ _ _ _ rw3
    clear u0 u1 h1 h2 B1 B2 r2 ow3
    have k3 : Below w.heap.size w w3 := below_next (below_next (below_of_alloc b1) b2) b3
    obtain ⟨u0, u1⟩ := B3.two
    have u0' := B3.two_new.1
    have u1' := B3.two_new.2
    go_wp2_with fail
    clear u0 u1 u0' u1'
    have S4 := Blk.new w3 29 #[.int .i64 t.erase.kind, .slice pa pn pc]
    have R4 : Rd (w3.alloc (.cells #[.int .i64 t.erase.kind, .slice pa pn pc] 29)) t c0 c1 := Rd.below ⟨f3, r3⟩ (below_new _ _)
    refine (toType_any t _ _ _ R4 hs).mono ?_
    rintro e w5 ⟨x0, x1, fx, rfl, rx5, nx, ox5, b5⟩
    obtain ⟨xa, xn, xc, rfl, rfl, -, -⟩ := rx5.rd.shape
    have S5 := S4.under b5
    have k5 : Below w3.heap.size w3 w5 := below_of_alloc b5
    have z1 := B3.lt
    have z2 := S5.lt
    have lx := RT.lt _ _ _ _ rx5
    have gx : ∀ b ∈ fx, w3.heap.size + 1 ≤ b := fun b hb => by have := ox5.1 b hb; simpa using this
    go_wp2_with fail
    have X6 := Blk.new w5 29 #[.int .i64 t.kind, .slice xa xn xc]
    have rx6 : RT (w5.alloc (.cells #[.int .i64 t.kind, .slice xa xn xc] 29)) t _ _ fx := RT.below rx5 (below_new _ _)
    refine (implEraseType_any t _ _ _ ⟨fx, rx6⟩ hs).mono ?_
    rintro e w7 ⟨g0, g1, fg, rfl, rg7, ng, og7, b7⟩
    obtain ⟨ga, gn, gc, rfl, rfl, -, -⟩ := rg7.rd.shape
    have X7 := X6.under b7
    have k7 : Below w5.heap.size w5 w7 := below_of_alloc b7
    have z3 := X7.lt
    have lg := RT.lt _ _ _ _ rg7
    have gg : ∀ b ∈ fg, w5.heap.size + 1 ≤ b := fun b hb => by have := og7.1 b hb; simpa using this
    have rw7 := RT.below rw3 (below_next k5 k7)
    have S7 := S5.under k7
    have s0' := S7.two_new.1
    have s1' := S7.two_new.2
    go_wp2_with fail
    clear s0' s1'
    refine (eqType_any t.erase _ _ _ _ _ (rg7.rd.below (below_new _ _)) (rw7.rd.below (below_new _ _))).mono ?_
    rintro e w9 ⟨rfl, b9⟩
    have G9 := (Blk.new w7 29 #[.int .i64 t.erase.kind, .slice ga gn gc]).under b9
    have k9 : Below w7.heap.size w7 w9 := below_of_alloc b9
    have X9 := X7.under k9
    have B9 := B3.under (below_next k5 (below_next k7 k9))
    obtain ⟨v0, v1⟩ := X9.two
    obtain ⟨u0, u1⟩ := B9.two
    go_wp2_with fail
    have h9' : Rd w9.drew t c0 c1 := Rd.below (Rd.below ⟨f3, r3⟩ (below_next k5 (below_next k7 k9))) (below_drew _)
    have x9' : Rd w9.drew t (.int .i64 t.kind) (.slice xa xn xc) := Rd.below (Rd.below ⟨fx, rx5⟩ (below_next k7 k9)) (below_drew _)
    go_region_held3 (fun W => W.cell? ⟨w5.heap.size, 0, none⟩ = some (.int .i64 t.kind) ∧ W.cell? ⟨w5.heap.size, 1, none⟩ = some (.slice xa xn xc) ∧ W.cell? ⟨w.heap.size, 0, none⟩ = some c0 ∧ W.cell? ⟨w.heap.size, 1, none⟩ = some c1)
      (first | exact ⟨v0, v1, u0, u1⟩ | exact ⟨X10.two.1, X10.two.2, B10.two.1, B10.two.2⟩ | exact ⟨X11.two.1, X11.two.2, B11.two.1, B11.two.2⟩)
      (first
        | (go_at_call 14; refine (toType_any t _ _ _ h9' hs).mono ?_; rintro e w10 ⟨y0, y1, fr, rfl, r10, -, -, b10⟩
           have X10 : Blk w10 _ _ _ := Blk.under (w := w9.drew) X9 b10
           have B10 : Blk w10 _ _ _ := Blk.under (w := w9.drew) B9 b10
           have x10 := x9'.below b10)
        | (go_at_call 16; refine (eqType_any t _ _ _ _ _ x10 ⟨fr, r10⟩).mono ?_; rintro e w11 ⟨rfl, b11⟩
           have X11 := X10.under b11
           have B11 := B10.under b11))
    have k11 : Below w9.heap.size w9 w11 := below_next (below_next (below_drew w9) b10) b11
    have k3_11 : Below w3.heap.size w3 w11 := below_next k5 (below_next k7 (below_next k9 k11))
    have k5_11 : Below w5.heap.size w5 w11 := below_next k7 (below_next k9 k11)
    have k7_11 : Below w7.heap.size w7 w11 := below_next k9 k11
    have G11 := G9.under k11
    have S11 := S5.under k5_11
    have z4 := G11.lt
    have rx11 := RT.below rx5 k5_11
    have FX := ox5.2.below lx k5_11
    clear h9' x9' x10 b10 b11 r10 X10 B10 u0 u1 v0 v1 rx6
    obtain ⟨v0, v1⟩ := X11.two
    go_wp2_with fail
    refine (markType_any t _ _ fx 1 _ rx11 nx FX (by omega) (by omega)).mono ?_
    rintro e w13 ⟨rfl, -, W13⟩
    have z5 := W13.size
    have low : ∀ b, b ≤ w3.heap.size → b ∉ fx := fun b hb hin => by have := gx b hin; omega
    have high : ∀ b, w5.heap.size ≤ b → b ∉ fx := fun b hb hin => by have := lx b hin; omega
    have S13 : Blk w13 _ _ _ := (W13.block _ (by omega) (low _ (Nat.le_refl _))).trans S11
    have B13 : Blk w13 _ _ _ := (W13.block _ (by omega) (low _ (by omega))).trans B11
    have G13 : Blk w13 _ _ _ := (W13.block _ (by omega) (high _ (by omega))).trans G11
    have r13 : RT w13 t c0 c1 f3 := RT.keep _ _ _ _ (RT.below r3 k3_11) fun b hb => W13.same (by have := l3 b hb; omega) (low b (by have := l3 b hb; omega))
    have rw13 : RT w13 t.erase _ _ fw := RT.keep _ _ _ _ (RT.below rw3 k3_11) fun b hb => W13.same (by have := lw b hb; omega) (low b (by have := lw b hb; omega))
    have rg13 : RT w13 t.erase _ _ fg := RT.keep _ _ _ _ (RT.below rg7 k7_11) fun b hb => W13.same (by have := lg b hb; omega) (high b (by have := gg b hb; omega))
    have FG13 : Free w13 fg := W13.free (og7.2.below lg k7_11) fun b hb => by have := lg b hb; omega
    have hq : decide ((1 : Int) + Ty.sizes t.args < 0) = false := by simp; omega
    have k13 : Below w.heap.size w w13 := (below_next k3 k3_11).trans (W13.below (by omega) fun b hb => by have := gx b hb; omega)
    clear v0 v1 X11 X9 X7 X6 S11 S7 S5 S4 B11 B9 G11 G9 rx11 rx5 R4 rw7
    obtain ⟨v0, v1⟩ := G13.two
    obtain ⟨s0, s1⟩ := S13.two
    go_wp2_with fail
    refine (eqType_any t.erase _ _ _ _ _ rg13.rd rw13.rd).mono ?_
    rintro e w14 ⟨rfl, b14⟩
    have S14 := S13.under b14
    have B14 := B13.under b14
    have G14 := G13.under b14
    have r14 := RT.below r13 b14
    have rw14 := RT.below rw13 b14
    have rg14 := RT.below rg13 b14
    have z6 := b14.size
    have FG14 := FG13.below (RT.lt _ _ _ _ rg13) b14
    clear v0 v1 s0 s1
    obtain ⟨v0, v1⟩ := G14.two
    go_wp2_with fail
    refine (markType_any t.erase _ _ fg 1 _ rg14 ng FG14 (by omega) (by omega)).mono ?_
    rintro e w15 ⟨rfl, mg15, W15⟩
    have z7 := W15.size
    have low2 : ∀ b, b ≤ w5.heap.size → b ∉ fg := fun b hb hin => by have := gg b hin; omega
    have S15 : Blk w15 _ _ _ := (W15.block _ (by omega) (low2 _ (by omega))).trans S14
    have B15 : Blk w15 _ _ _ := (W15.block _ (by omega) (low2 _ (by omega))).trans B14
    have G15 : Blk w15 _ _ _ := (W15.block _ (by omega) (fun hin => by have := lg _ hin; omega)).trans G14
    have r15 : RT w15 t c0 c1 f3 := RT.keep _ _ _ _ r14 fun b hb => W15.same (by have := l3 b hb; omega) (low2 b (by have := l3 b hb; omega))
    have rw15 : RT w15 t.erase _ _ fw := RT.keep _ _ _ _ rw14 fun b hb => W15.same (by have := lw b hb; omega) (low2 b (by have := lw b hb; omega))
    have k15 : Below w.heap.size w w15 := (k13.trans (b14.mono (by omega))).trans (W15.below (by omega) fun b hb => by have := gg b hb; omega)
    clear v0 v1
    obtain ⟨v0, v1⟩ := G15.two
    go_wp2_with fail
    refine (heldType_any t.erase.kind t.erase.args _ _ 1 _ ⟨fg, mg15⟩ (by omega) (by omega)).mono ?_
    rintro e w16 ⟨rfl, b16⟩
    have hq2 : decide ((1 : Int) + Ty.sizes t.erase.args < 0) = false := by simp; omega
    have B16 := B15.under b16
    have r16 := RT.below r15 b16
    clear v0 v1
    obtain ⟨u0, u1⟩ := B16.two
    go_wp2_with fail
    refine (toType_any t _ _ _ ⟨f3, r16⟩ hs).mono ?_
    rintro e w17 ⟨y0, y1, fr, rfl, r17, -, -, b17⟩
    go_wp2_with fail
    refine (implEraseType_any t _ _ _ ⟨fr, r17⟩ hs).mono ?_
    rintro e w18 ⟨q0, q1, fh, rfl, rh18, -, -, b18⟩
    obtain ⟨ha, hn, hc, rfl, rfl, -, -⟩ := rh18.rd.shape
    have k18 : Below w15.heap.size w15 w18 := below_next b16 (below_next b17 b18)
    have S18 := S15.under k18
    have rw18 := RT.below rw15 k18
    have s0' := S18.two_new.1
    have s1' := S18.two_new.2
    clear u0 u1
    go_wp2_with fail
    clear s0' s1'
    refine (eqType_any t.erase _ _ _ _ _ (rh18.rd.below (below_new _ _)) (rw18.rd.below (below_new _ _))).mono ?_
    rintro e w20 ⟨rfl, b20⟩
    have k20 : Below w15.heap.size w15 w20 := below_next k18 (below_of_alloc b20)
    have G20 := G15.under k20
    obtain ⟨v0, v1⟩ := G20.two
    go_wp2_with fail
    refine (heldType_any t.erase.kind t.erase.args _ _ 1 _ ⟨fg, RT.below mg15 k20⟩ (by omega) (by omega)).mono ?_
    rintro e w21 ⟨rfl, b21⟩
    go_wp2_with fail
    go_ret
    exact ⟨rfl, k15.trans ((below_next k20 b21).mono (by omega))⟩
  · have hp : lessN (Ty.sizes t.args) 1048576 < 0 := by rw [lessN_neg (by omega)]; omega
    go_enter Try.func9, Try.ntmps9
    go_wp2_with (go_at_call 12; refine (szType_any t _ _ _ _ (h.below (by repeat (first | exact Below.refl _ _ | assumption | refine Below.drew ?_ | refine below_drewN ?_ _ | refine Below.alloc ?_ (by first | omega | (simp; done) | (simp; omega)) _ | refine Below.setCell ?_ (by first | omega | (simp; done) | (simp; omega)) _))) (by omega) (by omega)).mono ?_; rintro e w1 ⟨rfl, b1⟩)
    go_ret
    exact ⟨rfl, below_of_alloc b1⟩
end Go.Proofs.Ytfomakiljojabaa.fnExactEraseType
