/-
  The law FnExactFreeVars: the program's FreeVars and the reference's return the same names, in a list of its own, for every term. No condition.
-/
import Derived.Test.YtknlbhclfeldbaaTmTo
import Derived.Test.YtknlbhclfeldbaaTmEq
import Derived.Test.YtknlbhclfeldbaaFreeI
import Derived.Test.YtknlbhclfeldbaaMarkM
import Derived.Deep.RegionHeld3
namespace Go.Proofs.Ytknlbhclfeldbaa.fnExactFreeVars
open Go.RowKit Go.ChangeShapes Go.WideShapes
set_option linter.unusedVariables false
set_option linter.unusedSimpArgs false

set_option maxHeartbeats 3200000 in
theorem walk (t : Tm) (l : Lt) (w : World) (h : Md w t l) :
    Calls Try.prog 5 #[.agg #[.int .i64 t.kind, .string t.name, .string t.other, .int .i64 t.n, .int .i64 t.type.kind, .slice l.ta l.tn l.tc, .int .i64 t.res.kind, .slice l.ra l.rn l.rc, .slice l.aa l.an l.ac]] w fun e w' => e = .returned (.bool true) ∧ Below w.heap.size w w' := by
  by_cases hs : t.wt ≤ 1048576
  · have hp : 0 ≤ lessN t.wt 1048576 := by rw [lessN_pos (by omega)]; omega
    have hwz : ∀ s ∈ t.free, s.size ≤ 9223372036854775807 := fun s hx => Nat.le_trans (Tm.free_size 1048576 t hs s hx) (by decide)
    have hwl : t.free.length ≤ 1048577 := by
      have h1 := t.free_len
      have h2 := t.size_eq
      have h3 := t.args_le_wt
      omega
    obtain ⟨zs, hzs⟩ : ∃ zs, zs = t.free := ⟨_, rfl⟩
    rw [← hzs] at hwz hwl
    replace hzs := hide hzs
    go_enter Try.func5, Try.ntmps5
    go_wp2_with fail
    refine (szTerm_any t _ _ _ (h.below (below_new _ _)) (by omega) (by omega)).mono ?_
    rintro e w1 ⟨rfl, b1⟩
    have B1 := (Blk.new w _ _).under b1
    have K1 := below_of_alloc b1
    have wlt := B1.lt
    obtain ⟨u0, u1, u2, u3, u4, u5, u6, u7, u8⟩ := B1.nine
    go_wp2_with fail
    refine (toTerm_any t _ _ (h.below K1) hs).mono ?_
    rintro e w2 ⟨l2, fp, rfl, r2, -, -, b2⟩
    have B2 := B1.under b2
    have K2 := below_next K1 b2
    clear u0 u1 u2 u3 u4 u5 u6 u7 u8
    obtain ⟨u0, u1, u2, u3, u4, u5, u6, u7, u8⟩ := B2.nine
    go_wp2_with fail
    refine (specFreeVars_any t _ _ r2.md hs).mono ?_
    rintro e w3 ⟨v0, rfl, hO0, b3⟩
    rw [← hzs.out] at hO0
    obtain ⟨a0, c0, rfl, R0⟩ := hO0.read hwz
    have A0 := hO0.at_
    have B3 := B2.under b3
    have K3 := below_next K2 b3
    clear u0 u1 u2 u3 u4 u5 u6 u7 u8
    obtain ⟨u0, u1, u2, u3, u4, u5, u6, u7, u8⟩ := B3.nine
    go_wp2_with fail
    refine (toTerm_any t _ _ (h.below K3) hs).mono ?_
    rintro e w4 ⟨l4, fq, rfl, r4, hnd4, hown4, b4⟩
    have B4 := B3.under b4
    have K4 := below_next K3 b4
    replace R0 := R0.below b4
    have hq4 := r4.lt
    clear u0 u1 u2 u3 u4 u5 u6 u7 u8
    obtain ⟨u0, u1, u2, u3, u4, u5, u6, u7, u8⟩ := B4.nine
    go_wp2_with fail
    have x5 : RM (w4.alloc (.cells #[.int .i64 t.kind, .string t.name, .string t.other, .int .i64 t.n, .int .i64 t.type.kind, .slice l4.ta l4.tn l4.tc, .int .i64 t.res.kind, .slice l4.ra l4.rn l4.rc, .slice l4.aa l4.an l4.ac] 42)) t l4 fq := r4.below (below_new _ _)
    refine ((implFreeVars_any t _ _ x5.md hs).mono fun _ _ h => h.gives).mono ?_
    rintro e w6 ⟨v1, rfl, hO1, b6⟩
    rw [← hzs.out] at hO1
    obtain ⟨a1, c1, rfl, R1⟩ := hO1.read hwz
    have A1 := hO1.at_
    have b6' := below_of_alloc b6
    have X6 := (Blk.new w4 _ _).under b6
    have x6 := r4.below b6'
    have B6 := B4.under b6'
    have K6 := below_next K4 b6'
    replace R0 := R0.below b6'
    clear u0 u1 u2 u3 u4 u5 u6 u7 u8
    go_wp2_with fail
    refine (eqStringS_any zs _ _ _ _ _ _ R1 R0).mono ?_
    rintro e w7 ⟨rfl, b7⟩
    have X7 := X6.under b7
    have x7m := x6.below b7
    have B7 := B6.under b7
    have K7 := below_next K6 b7
    replace R0 := R0.below b7
    replace hO1 := OwnS.below hO1 b7
    have x7 := x7m.md
    have h7 := h.below K7
    have s2 := b2.size
    have s3 := b3.size
    have s4 := b4.size
    have s6 := b6'.size
    have s7 := b7.size
    have k1 := K1.size
    obtain ⟨u0, u1, u2, u3, u4, u5, u6, u7, u8⟩ := B7.nine
    obtain ⟨v0, v1, v2, v3, v4, v5, v6, v7, v8⟩ := X7.nine
    go_wp2_with fail
    have h7' : Md w7.drew t l := h7.below (below_drew _)
    have x7' : Md w7.drew t l4 := x7.below (below_drew _)
    go_region_held3 (fun W => (W.cell? ⟨w4.heap.size, 0, none⟩ = some (.int .i64 t.kind) ∧ W.cell? ⟨w4.heap.size, 1, none⟩ = some (.string t.name) ∧ W.cell? ⟨w4.heap.size, 2, none⟩ = some (.string t.other) ∧ W.cell? ⟨w4.heap.size, 3, none⟩ = some (.int .i64 t.n) ∧
        W.cell? ⟨w4.heap.size, 4, none⟩ = some (.int .i64 t.type.kind) ∧ W.cell? ⟨w4.heap.size, 5, none⟩ = some (.slice l4.ta l4.tn l4.tc) ∧ W.cell? ⟨w4.heap.size, 6, none⟩ = some (.int .i64 t.res.kind) ∧ W.cell? ⟨w4.heap.size, 7, none⟩ = some (.slice l4.ra l4.rn l4.rc) ∧ W.cell? ⟨w4.heap.size, 8, none⟩ = some (.slice l4.aa l4.an l4.ac)) ∧
      W.cell? ⟨w.heap.size, 0, none⟩ = some (.int .i64 t.kind) ∧ W.cell? ⟨w.heap.size, 1, none⟩ = some (.string t.name) ∧ W.cell? ⟨w.heap.size, 2, none⟩ = some (.string t.other) ∧ W.cell? ⟨w.heap.size, 3, none⟩ = some (.int .i64 t.n) ∧
        W.cell? ⟨w.heap.size, 4, none⟩ = some (.int .i64 t.type.kind) ∧ W.cell? ⟨w.heap.size, 5, none⟩ = some (.slice l.ta l.tn l.tc) ∧ W.cell? ⟨w.heap.size, 6, none⟩ = some (.int .i64 t.res.kind) ∧ W.cell? ⟨w.heap.size, 7, none⟩ = some (.slice l.ra l.rn l.rc) ∧ W.cell? ⟨w.heap.size, 8, none⟩ = some (.slice l.aa l.an l.ac))
      (first | exact ⟨⟨v0, v1, v2, v3, v4, v5, v6, v7, v8⟩, u0, u1, u2, u3, u4, u5, u6, u7, u8⟩ | exact ⟨X8.nine, B8.nine⟩ | exact ⟨X9.nine, B9.nine⟩)
      (first
        | (go_at_call 19; refine (toTerm_any t _ _ h7' hs).mono ?_; rintro e w8 ⟨l8, fr, rfl, r8, -, -, b8⟩
           have X8 : Blk w8 _ _ _ := Blk.under (w := w7.drew) X7 b8
           have B8 : Blk w8 _ _ _ := Blk.under (w := w7.drew) B7 b8
           have x8 := x7'.below b8)
        | (go_at_call 21; refine (eqTerm_any t _ _ _ x8 r8.md).mono ?_; rintro e w9 ⟨rfl, b9⟩
           have X9 := X8.under b9
           have B9 := B8.under b9))
    have bd := below_next (below_next (below_drew w7) b8) b9
    have K9 := below_next K7 bd
    have s9 := bd.size
    replace R0 := R0.below bd
    replace hO1 := OwnS.below hO1 bd
    have x9m := x7m.below bd
    have X10 := X7.under bd
    have B10 := B7.under bd
    have hF9 : Free w9 fq := (hown4.2.below hq4 b6').below (fun b hb => by have := hq4 b hb; omega) b7 |>.below (fun b hb => by have := hq4 b hb; omega) bd
    have C10 := hide (markTerm_any t l4 fq 1 w9 x9m hnd4 hF9 hs (by omega) (by omega))
    clear R1 r4 x5 x6 x7 x7' h7 h7' x7m X6 B6 X8 B8 x8 r8 r2 B1 B2 B3 B4 X7 B7
    go_wp2_with fail
    refine C10.out.mono ?_
    rintro e w10 ⟨z, rfl, hz0, q10⟩
    have s10 := q10.size
    have hz9 : decide (z < 0) = false := decide_eq_false (by omega)
    have K10 := K9.trans (q10.below (B := w.heap.size) K9.size (by intro b hb; have := hown4.1 b hb; omega))
    replace R0 := R0.wrote q10 (by intro p hp hin; have := A0 p hp; have := hown4.1 _ hin; omega)
    obtain ⟨a1', c1', e1, R1⟩ := hO1.read hwz
    injection e1 with e1 _ e3
    subst e1 e3
    replace R1 := R1.wrote q10 (by intro p hp hin; have h1 := A1 p hp; have h2 := hq4 _ hin; simp at h1; omega)
    replace hO1 := hO1.wrote q10 (by intro g hg hin; have h1 := hO1.lt g hg; have h2 := hq4 _ hin; simp at h1; omega)
    have B11 : Blk w10 w.heap.size 34 #[.int .i64 t.kind, .string t.name, .string t.other, .int .i64 t.n, .int .i64 t.type.kind, .slice l.ta l.tn l.tc, .int .i64 t.res.kind, .slice l.ra l.rn l.rc, .slice l.aa l.an l.ac] := (q10.block _ B10.lt (fun hin => by have := hown4.1 _ hin; omega)).trans B10
    clear u0 u1 u2 u3 u4 u5 u6 u7 u8 v0 v1 v2 v3 v4 v5 v6 v7 v8 X10 B10 x9m C10
    go_wp2_with fail
    refine (eqStringS_any zs _ _ _ _ _ _ R1 R0).mono ?_
    rintro e w11 ⟨rfl, b11⟩
    have K11 := below_next K10 b11
    have s11 := b11.size
    replace R0 := R0.below b11
    replace hO1 := OwnS.below hO1 b11
    replace B11 := B11.under b11
    clear R1
    go_wp2_with fail
    refine (markRes hO1 (by omega)).mono ?_
    rintro e w12 ⟨rfl, ⟨fr, hfr, -, q12⟩, M⟩
    have s12 := q12.size
    have K12 := K11.trans (q12.below (B := w.heap.size) K11.size (by intro b hb; have := hfr b hb; simp at this; omega))
    replace R0 := R0.wrote q12 (by intro p hp hin; have := A0 p hp; have := hfr _ hin; simp at this; omega)
    replace B11 : Blk w12 w.heap.size 34 #[.int .i64 t.kind, .string t.name, .string t.other, .int .i64 t.n, .int .i64 t.type.kind, .slice l.ta l.tn l.tc, .int .i64 t.res.kind, .slice l.ra l.rn l.rc, .slice l.aa l.an l.ac] := (q12.block _ B11.lt (fun hin => by have := hfr _ hin; simp at this; omega)).trans B11
    clear hO1
    go_wp2_with fail
    refine (heldStringS_any 1 zs.length _ _ _ (by omega) (by omega) M).mono ?_
    rintro e w13 ⟨rfl, b13⟩
    have K13 := below_next K12 b13
    replace R0 := R0.below b13
    replace M := M.below b13
    replace B11 := B11.under b13
    obtain ⟨u0, u1, u2, u3, u4, u5, u6, u7, u8⟩ := B11.nine
    go_wp2_with fail
    refine (toTerm_any t _ _ (h.below K13) hs).mono ?_
    rintro e w14 ⟨l14, fs, rfl, r14, -, -, b14⟩
    have K14 := below_next K13 b14
    replace R0 := R0.below b14
    replace M := M.below b14
    clear u0 u1 u2 u3 u4 u5 u6 u7 u8
    go_wp2_with fail
    refine ((implFreeVars_any t _ _ r14.md hs).mono fun _ _ h => h.gives).mono ?_
    rintro e w15 ⟨v2, rfl, hO2, b15⟩
    rw [← hzs.out] at hO2
    obtain ⟨a2, c2, rfl, R2⟩ := hO2.read hwz
    have K15 := below_next K14 b15
    replace R0 := R0.below b15
    replace M := M.below b15
    go_wp2_with fail
    refine (eqStringS_any zs _ _ _ _ _ _ R2 R0).mono ?_
    rintro e w16 ⟨rfl, b16⟩
    have K16 := below_next K15 b16
    replace M := M.below b16
    go_wp2_with fail
    refine (heldStringS_any 1 zs.length _ _ _ (by omega) (by omega) M).mono ?_
    rintro e w17 ⟨rfl, b17⟩
    go_wp2_with fail
    go_ret
    exact ⟨rfl, below_next K16 b17⟩
  · have hp : lessN t.wt 1048576 < 0 := by rw [lessN_neg (by omega)]; omega
    go_enter Try.func5, Try.ntmps5
    go_wp2_with (go_at_call 17; refine (szTerm_any t _ _ _ (h.below (below_new _ _)) (by omega) (by omega)).mono ?_; rintro e w1 ⟨rfl, b1⟩)
    go_ret
    exact ⟨rfl, below_of_alloc b1⟩
end Go.Proofs.Ytknlbhclfeldbaa.fnExactFreeVars
