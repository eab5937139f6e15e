/-
  The law FnExactEqualTerm, walked: the program's EqualTerm and the reference's give the same answer at every two terms.
-/
import Derived.Test.YtaackbedahpnaaaTmTo
import Derived.Test.YtaackbedahpnaaaTmEq
import Derived.Test.YtaackbedahpnaaaEqualMI
import Derived.Deep.RegionHeld3
namespace Go.Proofs.Ytaackbedahpnaaa.fnExactEqualTerm
open Go.RowKit
set_option linter.unusedVariables false
set_option linter.unusedSimpArgs false

theorem _root_.Go.Proofs.Ytaackbedahpnaaa.Blk.nine_new {w : World} {g T : Nat} {t : Tm} {l : Lt} (h : Blk w g T #[.int .i64 t.kind, .string t.name, .string t.other, .int .i64 t.n, .int .i64 t.type.kind, .slice l.ta l.tn l.tc, .int .i64 t.res.kind, .slice l.ra l.rn l.rc, .slice l.aa l.an l.ac]) :
    (∀ o, (w.alloc o).cell? ⟨g, 0, none⟩ = some (.int .i64 t.kind)) ∧ (∀ o, (w.alloc o).cell? ⟨g, 1, none⟩ = some (.string t.name)) ∧ (∀ o, (w.alloc o).cell? ⟨g, 2, none⟩ = some (.string t.other)) ∧ (∀ o, (w.alloc o).cell? ⟨g, 3, none⟩ = some (.int .i64 t.n)) ∧
    (∀ o, (w.alloc o).cell? ⟨g, 4, none⟩ = some (.int .i64 t.type.kind)) ∧ (∀ o, (w.alloc o).cell? ⟨g, 5, none⟩ = some (.slice l.ta l.tn l.tc)) ∧ (∀ o, (w.alloc o).cell? ⟨g, 6, none⟩ = some (.int .i64 t.res.kind)) ∧ (∀ o, (w.alloc o).cell? ⟨g, 7, none⟩ = some (.slice l.ra l.rn l.rc)) ∧
    (∀ o, (w.alloc o).cell? ⟨g, 8, none⟩ = some (.slice l.aa l.an l.ac)) :=
  ⟨fun o => (h.alloc o).cell 0, fun o => (h.alloc o).cell 1, fun o => (h.alloc o).cell 2, fun o => (h.alloc o).cell 3, fun o => (h.alloc o).cell 4, fun o => (h.alloc o).cell 5, fun o => (h.alloc o).cell 6, fun o => (h.alloc o).cell 7, fun o => (h.alloc o).cell 8⟩

set_option maxHeartbeats 6400000 in
theorem walk (t : Tm) (l : Lt) (u : Tm) (l' : Lt) (w : World) (h : Md w t l) (k : Md w u l') :
    Calls Try.prog 10 #[.agg #[.int .i64 t.kind, .string t.name, .string t.other, .int .i64 t.n, .int .i64 t.type.kind, .slice l.ta l.tn l.tc, .int .i64 t.res.kind, .slice l.ra l.rn l.rc, .slice l.aa l.an l.ac], .agg #[.int .i64 u.kind, .string u.name, .string u.other, .int .i64 u.n, .int .i64 u.type.kind, .slice l'.ta l'.tn l'.tc, .int .i64 u.res.kind, .slice l'.ra l'.rn l'.rc, .slice l'.aa l'.an l'.ac]] w fun e w' => e = .returned (.bool true) ∧ Below w.heap.size w w' := by
  by_cases hs : t.wt ≤ 1048576
  · have hp : 0 ≤ lessN (t.wt) 1048576 ∧ lessN (t.wt) 1048576 ≤ 1048576 := by rw [lessN_pos (by omega)]; omega
    obtain ⟨hp, hp'⟩ := hp
    by_cases hu : (u.wt : Int) ≤ lessN (t.wt) 1048576
    · have hu' : u.wt ≤ 1048576 := by omega
      have hq : 0 ≤ lessN (u.wt) (lessN (t.wt) 1048576) := by rw [lessN_pos hu]; omega
      go_enter Try.func10, Try.ntmps10
      go_wp2_with fail
      refine (szTerm_any t _ _ _ (h.below (by repeat (first | exact Below.refl _ _ | assumption | refine Below.drew ?_ | refine below_drewN ?_ _ | refine Below.alloc ?_ (by first | omega | (simp; done) | (simp; omega)) _ | refine Below.setCell ?_ (by first | omega | (simp; done) | (simp; omega)) _))) (by omega) (by omega)).mono ?_
      rintro e w1 ⟨rfl, b1⟩
      have q1 : Below w.heap.size w w1 := (by repeat (first | exact Below.refl _ _ | refine Below.drew ?_ | refine below_drewN ?_ _ | refine Below.alloc ?_ (by first | omega | (simp; done) | (simp; omega)) _ | refine Below.setCell ?_ (by first | omega | (simp; done) | (simp; omega)) _ | refine Below.trans ?_ (Below.mono b1 (by first | omega | (simp; done) | (simp; omega)))))
      have A1 := Blk.under ((Blk.new w 27 #[.int .i64 t.kind, .string t.name, .string t.other, .int .i64 t.n, .int .i64 t.type.kind, .slice l.ta l.tn l.tc, .int .i64 t.res.kind, .slice l.ra l.rn l.rc, .slice l.aa l.an l.ac]).alloc (.cells #[.int .i64 u.kind, .string u.name, .string u.other, .int .i64 u.n, .int .i64 u.type.kind, .slice l'.ta l'.tn l'.tc, .int .i64 u.res.kind, .slice l'.ra l'.rn l'.rc, .slice l'.aa l'.an l'.ac] 27)) b1
      have B1 := Blk.under (Blk.new2 w (.cells #[.int .i64 t.kind, .string t.name, .string t.other, .int .i64 t.n, .int .i64 t.type.kind, .slice l.ta l.tn l.tc, .int .i64 t.res.kind, .slice l.ra l.rn l.rc, .slice l.aa l.an l.ac] 27) 27 #[.int .i64 u.kind, .string u.name, .string u.other, .int .i64 u.n, .int .i64 u.type.kind, .slice l'.ta l'.tn l'.tc, .int .i64 u.res.kind, .slice l'.ra l'.rn l'.rc, .slice l'.aa l'.an l'.ac]) b1
      obtain ⟨u0, u1, u2, u3, u4, u5, u6, u7, u8⟩ := A1.nine
      obtain ⟨v0, v1, v2, v3, v4, v5, v6, v7, v8⟩ := B1.nine
      go_wp2_with fail
      refine (szTerm_any u _ _ _ (k.below q1) hp hp').mono ?_
      rintro e w2 ⟨rfl, b2⟩
      have q2 := below_next q1 b2
      have A2 := A1.under b2
      have B2 := B1.under b2
      clear u0 u1 u2 u3 u4 u5 u6 u7 u8 v0 v1 v2 v3 v4 v5 v6 v7 v8
      obtain ⟨u0, u1, u2, u3, u4, u5, u6, u7, u8⟩ := A2.nine
      obtain ⟨v0, v1, v2, v3, v4, v5, v6, v7, v8⟩ := B2.nine
      go_wp2_with fail
      have h2 : Md w2.drew t l := (h.below q2).below (below_drew _)
      have k2 : Md w2.drew u l' := (k.below q2).below (below_drew _)
      go_region_held3 (fun W => (W.cell? ⟨w.heap.size, 0, none⟩ = some (.int .i64 t.kind) ∧ W.cell? ⟨w.heap.size, 1, none⟩ = some (.string t.name) ∧ W.cell? ⟨w.heap.size, 2, none⟩ = some (.string t.other) ∧ W.cell? ⟨w.heap.size, 3, none⟩ = some (.int .i64 t.n) ∧ W.cell? ⟨w.heap.size, 4, none⟩ = some (.int .i64 t.type.kind) ∧ W.cell? ⟨w.heap.size, 5, none⟩ = some (.slice l.ta l.tn l.tc) ∧ W.cell? ⟨w.heap.size, 6, none⟩ = some (.int .i64 t.res.kind) ∧ W.cell? ⟨w.heap.size, 7, none⟩ = some (.slice l.ra l.rn l.rc) ∧ W.cell? ⟨w.heap.size, 8, none⟩ = some (.slice l.aa l.an l.ac)) ∧ (W.cell? ⟨w.heap.size + 1, 0, none⟩ = some (.int .i64 u.kind) ∧ W.cell? ⟨w.heap.size + 1, 1, none⟩ = some (.string u.name) ∧ W.cell? ⟨w.heap.size + 1, 2, none⟩ = some (.string u.other) ∧ W.cell? ⟨w.heap.size + 1, 3, none⟩ = some (.int .i64 u.n) ∧ W.cell? ⟨w.heap.size + 1, 4, none⟩ = some (.int .i64 u.type.kind) ∧ W.cell? ⟨w.heap.size + 1, 5, none⟩ = some (.slice l'.ta l'.tn l'.tc) ∧ W.cell? ⟨w.heap.size + 1, 6, none⟩ = some (.int .i64 u.res.kind) ∧ W.cell? ⟨w.heap.size + 1, 7, none⟩ = some (.slice l'.ra l'.rn l'.rc) ∧ W.cell? ⟨w.heap.size + 1, 8, none⟩ = some (.slice l'.aa l'.an l'.ac)))
        (first | exact ⟨⟨u0, u1, u2, u3, u4, u5, u6, u7, u8⟩, ⟨v0, v1, v2, v3, v4, v5, v6, v7, v8⟩⟩ | exact ⟨A3.nine, B3.nine⟩ | exact ⟨A4.nine, B4.nine⟩ | exact ⟨A5.nine, B5.nine⟩)
        (first
          | (go_at_call 15; (with_reducible refine (toTerm_any t _ _ h2 hs).mono ?_); rintro e w3 ⟨l3, fx, rfl, r3, -, -, b3⟩
             have A3 : Blk w3 _ _ _ := Blk.under (w := w2.drew) A2 b3
             have B3 : Blk w3 _ _ _ := Blk.under (w := w2.drew) B2 b3
             have k3 := k2.below b3)
          | (go_at_call 15; (with_reducible refine (toTerm_any u _ _ k3 hu').mono ?_); rintro e w4 ⟨l4, fy, rfl, r4, -, -, b4⟩
             have A4 := A3.under b4
             have B4 := B3.under b4
             have r4' := r3.below b4)
          | (go_at_call 30; (with_reducible refine (specEqualTerm_any t u _ _ _ r4'.md r4.md).mono ?_); rintro e w5 ⟨rfl, b5⟩
             have A5 := A4.under b5
             have B5 := B4.under b5))
      have q5 := below_next (below_next (below_next (below_next q2 (below_drew _)) b3) b4) b5
      clear u0 u1 u2 u3 u4 u5 u6 u7 u8 v0 v1 v2 v3 v4 v5 v6 v7 v8
      obtain ⟨u0, u1, u2, u3, u4, u5, u6, u7, u8⟩ := A5.nine
      obtain ⟨v0, v1, v2, v3, v4, v5, v6, v7, v8⟩ := B5.nine
      go_wp2_with fail
      refine (toTerm_any t _ _ (h.below q5) hs).mono ?_
      rintro e w6 ⟨l6, fx, rfl, r6, -, -, b6⟩
      have q6 := below_next q5 b6
      have A6 := A5.under b6
      have B6 := B5.under b6
      clear u0 u1 u2 u3 u4 u5 u6 u7 u8 v0 v1 v2 v3 v4 v5 v6 v7 v8
      obtain ⟨u0, u1, u2, u3, u4, u5, u6, u7, u8⟩ := A6.nine
      obtain ⟨v0, v1, v2, v3, v4, v5, v6, v7, v8⟩ := B6.nine_new
      go_wp2_with fail
      have b6' := below_new w6 (.cells #[.int .i64 t.kind, .string t.name, .string t.other, .int .i64 t.n, .int .i64 t.type.kind, .slice l6.ta l6.tn l6.tc, .int .i64 t.res.kind, .slice l6.ra l6.rn l6.rc, .slice l6.aa l6.an l6.ac] 35)
      refine (toTerm_any u _ _ ((k.below q6).below b6') hu').mono ?_
      rintro e w7 ⟨l7, fy, rfl, r7, -, -, b7⟩
      have X7 := Blk.under (Blk.new w6 35 #[.int .i64 t.kind, .string t.name, .string t.other, .int .i64 t.n, .int .i64 t.type.kind, .slice l6.ta l6.tn l6.tc, .int .i64 t.res.kind, .slice l6.ra l6.rn l6.rc, .slice l6.aa l6.an l6.ac]) b7
      have q7 := below_next (below_next q6 b6') b7
      have A7 := (A6.under b6').under b7
      have B7 := (B6.under b6').under b7
      have x7 := ((r6.below b6').below b7).md
      clear u0 u1 u2 u3 u4 u5 u6 u7 u8 v0 v1 v2 v3 v4 v5 v6 v7 v8
      obtain ⟨u0, u1, u2, u3, u4, u5, u6, u7, u8⟩ := A7.nine
      obtain ⟨v0, v1, v2, v3, v4, v5, v6, v7, v8⟩ := B7.nine
      obtain ⟨s0, s1, s2, s3, s4, s5, s6, s7, s8⟩ := X7.nine_new
      go_wp2_with fail
      have b7' := below_new w7 (.cells #[.int .i64 u.kind, .string u.name, .string u.other, .int .i64 u.n, .int .i64 u.type.kind, .slice l7.ta l7.tn l7.tc, .int .i64 u.res.kind, .slice l7.ra l7.rn l7.rc, .slice l7.aa l7.an l7.ac] 35)
      refine (implEqualTerm_any t u _ _ _ (x7.below b7') (r7.md.below b7')).mono ?_
      rintro e w8 ⟨rfl, b8⟩
      have Y8 := Blk.under (Blk.new w7 35 #[.int .i64 u.kind, .string u.name, .string u.other, .int .i64 u.n, .int .i64 u.type.kind, .slice l7.ta l7.tn l7.tc, .int .i64 u.res.kind, .slice l7.ra l7.rn l7.rc, .slice l7.aa l7.an l7.ac]) b8
      have q8 := below_next (below_next q7 b7') b8
      have A8 := (A7.under b7').under b8
      have B8 := (B7.under b7').under b8
      have X8 := (X7.under b7').under b8
      have x8 := (x7.below b7').below b8
      have y8 := (r7.md.below b7').below b8
      clear u0 u1 u2 u3 u4 u5 u6 u7 u8 v0 v1 v2 v3 v4 v5 v6 v7 v8 s0 s1 s2 s3 s4 s5 s6 s7 s8
      obtain ⟨u0, u1, u2, u3, u4, u5, u6, u7, u8⟩ := A8.nine
      obtain ⟨s0, s1, s2, s3, s4, s5, s6, s7, s8⟩ := X8.nine
      go_wp2_with fail
      have h8 : Md w8.drew t l := (h.below q8).below (below_drew _)
      have x8' := x8.below (below_drew _)
      have y8' := y8.below (below_drew _)
      go_region_held3 (fun W => (W.cell? ⟨w6.heap.size, 0, none⟩ = some (.int .i64 t.kind) ∧ W.cell? ⟨w6.heap.size, 1, none⟩ = some (.string t.name) ∧ W.cell? ⟨w6.heap.size, 2, none⟩ = some (.string t.other) ∧ W.cell? ⟨w6.heap.size, 3, none⟩ = some (.int .i64 t.n) ∧ W.cell? ⟨w6.heap.size, 4, none⟩ = some (.int .i64 t.type.kind) ∧ W.cell? ⟨w6.heap.size, 5, none⟩ = some (.slice l6.ta l6.tn l6.tc) ∧ W.cell? ⟨w6.heap.size, 6, none⟩ = some (.int .i64 t.res.kind) ∧ W.cell? ⟨w6.heap.size, 7, none⟩ = some (.slice l6.ra l6.rn l6.rc) ∧ W.cell? ⟨w6.heap.size, 8, none⟩ = some (.slice l6.aa l6.an l6.ac)) ∧ (W.cell? ⟨w.heap.size, 0, none⟩ = some (.int .i64 t.kind) ∧ W.cell? ⟨w.heap.size, 1, none⟩ = some (.string t.name) ∧ W.cell? ⟨w.heap.size, 2, none⟩ = some (.string t.other) ∧ W.cell? ⟨w.heap.size, 3, none⟩ = some (.int .i64 t.n) ∧ W.cell? ⟨w.heap.size, 4, none⟩ = some (.int .i64 t.type.kind) ∧ W.cell? ⟨w.heap.size, 5, none⟩ = some (.slice l.ta l.tn l.tc) ∧ W.cell? ⟨w.heap.size, 6, none⟩ = some (.int .i64 t.res.kind) ∧ W.cell? ⟨w.heap.size, 7, none⟩ = some (.slice l.ra l.rn l.rc) ∧ W.cell? ⟨w.heap.size, 8, none⟩ = some (.slice l.aa l.an l.ac)))
        (first | exact ⟨⟨s0, s1, s2, s3, s4, s5, s6, s7, s8⟩, ⟨u0, u1, u2, u3, u4, u5, u6, u7, u8⟩⟩ | exact ⟨X9.nine, A9.nine⟩ | exact ⟨X10.nine, A10.nine⟩)
        (first
          | (go_at_call 15; (with_reducible refine (toTerm_any t _ _ h8 hs).mono ?_); rintro e w9 ⟨l9, fm, rfl, r9, -, -, b9⟩
             have X9 : Blk w9 _ _ _ := Blk.under (w := w8.drew) X8 b9
             have A9 : Blk w9 _ _ _ := Blk.under (w := w8.drew) A8 b9
             have x9 := x8'.below b9)
          | (go_at_call 17; (with_reducible refine (eqTerm_any t _ _ _ x9 r9.md).mono ?_); rintro e w10 ⟨rfl, b10⟩
             have X10 := X9.under b10
             have A10 := A9.under b10))
      have q10 := below_next (below_next (below_next q8 (below_drew _)) b9) b10
      have B10 : Blk w10 _ _ _ := Blk.under (Blk.under (w := w8.drew) B8 b9) b10
      have Y10 : Blk w10 _ _ _ := Blk.under (Blk.under (w := w8.drew) Y8 b9) b10
      have y10 := (y8'.below b9).below b10
      clear u0 u1 u2 u3 u4 u5 u6 u7 u8 s0 s1 s2 s3 s4 s5 s6 s7 s8
      obtain ⟨v0, v1, v2, v3, v4, v5, v6, v7, v8⟩ := B10.nine
      obtain ⟨s0, s1, s2, s3, s4, s5, s6, s7, s8⟩ := Y10.nine
      go_wp2_with fail
      have k10 : Md w10.drew u l' := (k.below q10).below (below_drew _)
      have y10' := y10.below (below_drew _)
      go_region_held3 (fun W => (W.cell? ⟨w7.heap.size, 0, none⟩ = some (.int .i64 u.kind) ∧ W.cell? ⟨w7.heap.size, 1, none⟩ = some (.string u.name) ∧ W.cell? ⟨w7.heap.size, 2, none⟩ = some (.string u.other) ∧ W.cell? ⟨w7.heap.size, 3, none⟩ = some (.int .i64 u.n) ∧ W.cell? ⟨w7.heap.size, 4, none⟩ = some (.int .i64 u.type.kind) ∧ W.cell? ⟨w7.heap.size, 5, none⟩ = some (.slice l7.ta l7.tn l7.tc) ∧ W.cell? ⟨w7.heap.size, 6, none⟩ = some (.int .i64 u.res.kind) ∧ W.cell? ⟨w7.heap.size, 7, none⟩ = some (.slice l7.ra l7.rn l7.rc) ∧ W.cell? ⟨w7.heap.size, 8, none⟩ = some (.slice l7.aa l7.an l7.ac)) ∧ (W.cell? ⟨w.heap.size + 1, 0, none⟩ = some (.int .i64 u.kind) ∧ W.cell? ⟨w.heap.size + 1, 1, none⟩ = some (.string u.name) ∧ W.cell? ⟨w.heap.size + 1, 2, none⟩ = some (.string u.other) ∧ W.cell? ⟨w.heap.size + 1, 3, none⟩ = some (.int .i64 u.n) ∧ W.cell? ⟨w.heap.size + 1, 4, none⟩ = some (.int .i64 u.type.kind) ∧ W.cell? ⟨w.heap.size + 1, 5, none⟩ = some (.slice l'.ta l'.tn l'.tc) ∧ W.cell? ⟨w.heap.size + 1, 6, none⟩ = some (.int .i64 u.res.kind) ∧ W.cell? ⟨w.heap.size + 1, 7, none⟩ = some (.slice l'.ra l'.rn l'.rc) ∧ W.cell? ⟨w.heap.size + 1, 8, none⟩ = some (.slice l'.aa l'.an l'.ac)))
        (first | exact ⟨⟨s0, s1, s2, s3, s4, s5, s6, s7, s8⟩, ⟨v0, v1, v2, v3, v4, v5, v6, v7, v8⟩⟩ | exact ⟨Y11.nine, B11.nine⟩ | exact ⟨Y12.nine, B12.nine⟩)
        (first
          | (go_at_call 15; (with_reducible refine (toTerm_any u _ _ k10 hu').mono ?_); rintro e w11 ⟨l11, fm, rfl, r11, -, -, b11⟩
             have Y11 : Blk w11 _ _ _ := Blk.under (w := w10.drew) Y10 b11
             have B11 : Blk w11 _ _ _ := Blk.under (w := w10.drew) B10 b11
             have y11 := y10'.below b11)
          | (go_at_call 17; (with_reducible refine (eqTerm_any u _ _ _ y11 r11.md).mono ?_); rintro e w12 ⟨rfl, b12⟩
             have Y12 := Y11.under b12
             have B12 := B11.under b12))
      go_wp2_with fail
      go_ret
      exact ⟨rfl, below_next (below_next (below_next q10 (below_drew _)) b11) b12⟩
    · have hq : lessN (u.wt) (lessN (t.wt) 1048576) < 0 := by rw [lessN_neg (by omega)]; omega
      go_enter Try.func10, Try.ntmps10
      go_wp2_with fail
      refine (szTerm_any t _ _ _ (h.below (by repeat (first | exact Below.refl _ _ | assumption | refine Below.drew ?_ | refine below_drewN ?_ _ | refine Below.alloc ?_ (by first | omega | (simp; done) | (simp; omega)) _ | refine Below.setCell ?_ (by first | omega | (simp; done) | (simp; omega)) _))) (by omega) (by omega)).mono ?_
      rintro e w1 ⟨rfl, b1⟩
      have q1 : Below w.heap.size w w1 := (by repeat (first | exact Below.refl _ _ | refine Below.drew ?_ | refine below_drewN ?_ _ | refine Below.alloc ?_ (by first | omega | (simp; done) | (simp; omega)) _ | refine Below.setCell ?_ (by first | omega | (simp; done) | (simp; omega)) _ | refine Below.trans ?_ (Below.mono b1 (by first | omega | (simp; done) | (simp; omega)))))
      have B1 := Blk.under (Blk.new2 w (.cells #[.int .i64 t.kind, .string t.name, .string t.other, .int .i64 t.n, .int .i64 t.type.kind, .slice l.ta l.tn l.tc, .int .i64 t.res.kind, .slice l.ra l.rn l.rc, .slice l.aa l.an l.ac] 27) 27 #[.int .i64 u.kind, .string u.name, .string u.other, .int .i64 u.n, .int .i64 u.type.kind, .slice l'.ta l'.tn l'.tc, .int .i64 u.res.kind, .slice l'.ra l'.rn l'.rc, .slice l'.aa l'.an l'.ac]) b1
      obtain ⟨v0, v1, v2, v3, v4, v5, v6, v7, v8⟩ := B1.nine
      go_wp2_with fail
      refine (szTerm_any u _ _ _ (k.below q1) hp hp').mono ?_
      rintro e w2 ⟨rfl, b2⟩
      go_wp2_with fail
      go_ret
      exact ⟨rfl, below_next q1 b2⟩
  · have hp : lessN (t.wt) 1048576 < 0 := by rw [lessN_neg (by omega)]; omega
    go_enter Try.func10, Try.ntmps10
    go_wp2_with (go_at_call 13; refine (szTerm_any t _ _ _ (h.below (by repeat (first | exact Below.refl _ _ | assumption | refine Below.drew ?_ | refine below_drewN ?_ _ | refine Below.alloc ?_ (by first | omega | (simp; done) | (simp; omega)) _ | refine Below.setCell ?_ (by first | omega | (simp; done) | (simp; omega)) _))) (by omega) (by omega)).mono ?_; rintro e w1 ⟨rfl, b1⟩)
    go_ret
    exact ⟨rfl, (by repeat (first | exact Below.refl _ _ | refine Below.drew ?_ | refine below_drewN ?_ _ | refine Below.alloc ?_ (by first | omega | (simp; done) | (simp; omega)) _ | refine Below.setCell ?_ (by first | omega | (simp; done) | (simp; omega)) _ | refine Below.trans ?_ (Below.mono b1 (by first | omega | (simp; done) | (simp; omega)))))⟩
end Go.Proofs.Ytaackbedahpnaaa.fnExactEqualTerm
