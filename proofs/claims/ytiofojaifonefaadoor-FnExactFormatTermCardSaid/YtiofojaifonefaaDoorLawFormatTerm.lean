/-
  The law FnExactFormatTerm, walked: the program's FormatTerm and the reference's give the same text for every term.
-/
import Derived.Test.YtiofojaifonefaaDoorTmTo
import Derived.Test.YtiofojaifonefaaDoorTmEq
import Derived.Test.YtiofojaifonefaaDoorPkText
import Derived.Deep.RegionHeld3
namespace Go.Proofs.YtiofojaifonefaaDoor.fnExactFormatTerm
open Go.RowKit
set_option maxRecDepth 100000
set_option linter.unusedVariables false
set_option linter.unusedSimpArgs false

set_option maxHeartbeats 1600000 in
theorem walk (t : Tm) (l : Lt) (w : World) (h : Md w t l) (ht : Tab w) :
    Calls Tryd.prog 4 #[.agg #[.int .i64 t.kind, .string t.name, .string t.other, .int .i64 t.n, .int .i64 t.type.kind, .slice l.ta l.tn l.tc, .int .i64 t.res.kind, .slice l.ra l.rn l.rc, .slice l.aa l.an l.ac]] w fun e w' => e = .returned (.bool true) ∧ Below w.heap.size w w' := by
  by_cases hs : t.wt ≤ 1048576
  · have hp : 0 ≤ lessN t.wt 1048576 := by rw [lessN_pos (by omega)]; omega
    have hz := Nat.le_trans t.args_le_wt hs
    go_enter Tryd.func4, Tryd.ntmps4
    go_wp2_with fail
    refine (szTerm_any t _ _ _ (h.below (below_new _ _)) (by omega) (by omega)).mono ?_
    rintro e w1 ⟨rfl, b1⟩
    have B1 := (Blk.new w _ _).under b1
    have h1 := h.below (below_of_alloc b1)
    obtain ⟨u0, u1, u2, u3, u4, u5, u6, u7, u8⟩ := B1.nine
    go_wp2_with fail
    refine (toTerm_any t _ _ h1 hs).mono ?_
    rintro e w2 ⟨l2, fp, rfl, r2, -, -, b2⟩
    have B2 := B1.under b2
    have h2 := h1.below b2
    clear u0 u1 u2 u3 u4 u5 u6 u7 u8
    obtain ⟨u0, u1, u2, u3, u4, u5, u6, u7, u8⟩ := B2.nine
    go_wp2_with fail
    refine (specFormatTerm_any t _ _ r2.md hs).mono ?_
    rintro e w3 ⟨rfl, b3⟩
    have B3 := B2.under b3
    have h3 := h2.below b3
    clear u0 u1 u2 u3 u4 u5 u6 u7 u8
    obtain ⟨u0, u1, u2, u3, u4, u5, u6, u7, u8⟩ := B3.nine
    go_wp2_with fail
    refine (toTerm_any t _ _ h3 hs).mono ?_
    rintro e w4 ⟨l4, fq, rfl, r4, -, -, b4⟩
    have B4 := B3.under b4
    have h4 := h3.below b4
    clear u0 u1 u2 u3 u4 u5 u6 u7 u8
    obtain ⟨u0, u1, u2, u3, u4, u5, u6, u7, u8⟩ := B4.nine
    go_wp2_with fail
    have x5 : Md (w4.alloc (.cells #[.int .i64 t.kind, .string t.name, .string t.other, .int .i64 t.n, .int .i64 t.type.kind, .slice l4.ta l4.tn l4.tc, .int .i64 t.res.kind, .slice l4.ra l4.rn l4.rc, .slice l4.aa l4.an l4.ac] 35)) t l4 := r4.md.below (below_new _ _)
    refine (implFormatTerm_any t _ _ x5 hs (ht.below ((below_next (below_next (below_next (below_of_alloc b1) b2) b3) b4).trans ((below_new _ _).mono (by have := b1.size; have := b2.size; have := b3.size; have := b4.size; simp at *; omega))))).mono ?_
    rintro e w6 ⟨rfl, b6⟩
    have X6 := (Blk.new w4 _ _).under b6
    have x6 := x5.below b6
    have B6 := B4.under (below_of_alloc b6)
    have h6 := h4.below (below_of_alloc b6)
    clear u0 u1 u2 u3 u4 u5 u6 u7 u8
    have u := B6.nine
    have v := X6.nine
    obtain ⟨u0, u1, u2, u3, u4, u5, u6, u7, u8⟩ := u
    obtain ⟨v0, v1, v2, v3, v4, v5, v6, v7, v8⟩ := v
    go_wp2_with fail
    have h6' : Md w6.drew t l := h6.below (below_drew _)
    have x6' : Md w6.drew t l4 := x6.below (below_drew _)
    go_region_held3 (fun W => (W.cell? ⟨w4.heap.size, 0, none⟩ = some (.int .i64 t.kind) ∧ W.cell? ⟨w4.heap.size, 1, none⟩ = some (.string t.name) ∧ W.cell? ⟨w4.heap.size, 2, none⟩ = some (.string t.other) ∧ W.cell? ⟨w4.heap.size, 3, none⟩ = some (.int .i64 t.n) ∧
        W.cell? ⟨w4.heap.size, 4, none⟩ = some (.int .i64 t.type.kind) ∧ W.cell? ⟨w4.heap.size, 5, none⟩ = some (.slice l4.ta l4.tn l4.tc) ∧ W.cell? ⟨w4.heap.size, 6, none⟩ = some (.int .i64 t.res.kind) ∧ W.cell? ⟨w4.heap.size, 7, none⟩ = some (.slice l4.ra l4.rn l4.rc) ∧ W.cell? ⟨w4.heap.size, 8, none⟩ = some (.slice l4.aa l4.an l4.ac)) ∧
      W.cell? ⟨w.heap.size, 0, none⟩ = some (.int .i64 t.kind) ∧ W.cell? ⟨w.heap.size, 1, none⟩ = some (.string t.name) ∧ W.cell? ⟨w.heap.size, 2, none⟩ = some (.string t.other) ∧ W.cell? ⟨w.heap.size, 3, none⟩ = some (.int .i64 t.n) ∧
        W.cell? ⟨w.heap.size, 4, none⟩ = some (.int .i64 t.type.kind) ∧ W.cell? ⟨w.heap.size, 5, none⟩ = some (.slice l.ta l.tn l.tc) ∧ W.cell? ⟨w.heap.size, 6, none⟩ = some (.int .i64 t.res.kind) ∧ W.cell? ⟨w.heap.size, 7, none⟩ = some (.slice l.ra l.rn l.rc) ∧ W.cell? ⟨w.heap.size, 8, none⟩ = some (.slice l.aa l.an l.ac))
      (first | exact ⟨⟨v0, v1, v2, v3, v4, v5, v6, v7, v8⟩, u0, u1, u2, u3, u4, u5, u6, u7, u8⟩ | exact ⟨X7.nine, B7.nine⟩ | exact ⟨X8.nine, B8.nine⟩)
      (first
        | (go_at_call 7; refine (toTerm_any t _ _ h6' hs).mono ?_; rintro e w7 ⟨l7, fr, rfl, r7, -, -, b7⟩
           have X7 : Blk w7 _ _ _ := Blk.under (w := w6.drew) X6 b7
           have B7 : Blk w7 _ _ _ := Blk.under (w := w6.drew) B6 b7
           have x7 := x6'.below b7)
        | (go_at_call 9; refine (eqTerm_any t _ _ _ x7 r7.md).mono ?_; rintro e w8 ⟨rfl, b8⟩
           have X8 := X7.under b8
           have B8 := B7.under b8))
    go_wp2_with fail
    go_ret
    exact ⟨rfl, below_next (below_next (below_next (below_next (below_next (below_next (below_next (below_of_alloc b1) b2) b3) b4) (below_of_alloc b6)) (below_drew w6)) b7) b8⟩
  · have hp : lessN t.wt 1048576 < 0 := by rw [lessN_neg (by omega)]; omega
    go_enter Tryd.func4, Tryd.ntmps4
    go_wp2_with (go_at_call 5; refine (szTerm_any t _ _ _ (h.below (below_new _ _)) (by omega) (by omega)).mono ?_; rintro e w1 ⟨rfl, b1⟩)
    go_ret
    exact ⟨rfl, below_of_alloc b1⟩
end Go.Proofs.YtiofojaifonefaaDoor.fnExactFormatTerm
