/-
  Contract of the program's isNamed.
-/
import Derived.Test.YtmdmnchnkfjpjaaFormP
import Derived.Test.YtmdmnchnkfjpjaaTmSz
namespace Go.Proofs.Ytmdmnchnkfjpjaa
open Go.RowKit
set_option linter.unusedVariables false
set_option linter.unusedSimpArgs false

set_option maxHeartbeats 6400000 in
theorem isNamed_any (t : Tm) (l : Lt) (w : World) (h : Md w t l) (hw : t.wt ≤ 1048576) :
    Calls Try.prog 43 #[.agg #[.int .i64 t.kind, .string t.name, .string t.other, .int .i64 t.n, .int .i64 t.type.kind, .slice l.ta l.tn l.tc, .int .i64 t.res.kind, .slice l.ra l.rn l.rc, .slice l.aa l.an l.ac]] w fun e w' => e = .returned (.bool (namedI t)) ∧ Below w.heap.size w w' := by
  obtain ⟨-, ht, hre, -⟩ := h.shape
  have hwt := t.wt_eq
  have h1 : t.name.size ≤ 1048576 := by omega
  have h2 : t.other.size ≤ 1048576 := by omega
  have z1 : Ty.sizes t.type.args ≤ 1048576 := by omega
  have z2 : Ty.sizes t.res.args ≤ 1048576 := by omega
  have CV := hide fun W (hW : Below w.heap.size w W) => implIsValidType_any t.type _ _ W (ht.below hW) z1
  have DV := hide fun W (hW : Below w.heap.size w W) => implIsValidType_any t.res _ _ W (hre.below hW) z2
  clear ht hre hwt hw z1 z2 h
  go_enter Try.func43, Try.ntmps43
  go_wp2_with (first
    | (go_at_call 16; (with_reducible refine (implOpArity_any _ _).mono ?_); rintro e w1 ⟨rfl, rfl⟩)
    | (go_at_call 56; (with_reducible refine (isNumber_is rfl _).mono ?_); rintro e w1 ⟨rfl, rfl⟩)
    | (go_at_call 57; (with_reducible refine (within_any _ _ _ _).mono ?_); rintro e w1 ⟨rfl, rfl⟩)
    | (go_at_call 55; (with_reducible refine (implIsName_any t.name _ h1).mono ?_); rintro e w1 ⟨rfl, b1⟩; have k1 := below_of_alloc b1; have B1 := (Blk.new w _ _).under b1; obtain ⟨u0, u1, u2, u3, u4, u5, u6, u7, u8⟩ := B1.nine)
    | (go_at_call 55; (with_reducible refine (implIsName_any t.other _ h2).mono ?_); rintro e w2 ⟨rfl, b2⟩; have k2 := below_next k1 b2; have B2 := B1.under b2; obtain ⟨v0, v1, v2, v3, v4, v5, v6, v7, v8⟩ := B2.nine)
    | (go_at_call 58; (with_reducible refine (CV.out _ k2).mono ?_); rintro e w3 ⟨rfl, b3⟩; have k3 := below_next k2 b3; have B3 := B2.under b3; obtain ⟨p0, p1, p2, p3, p4, p5, p6, p7, p8⟩ := B3.nine)
    | (go_at_call 58; (with_reducible refine (CV.out _ k1).mono ?_); rintro e w3 ⟨rfl, b3⟩; have k3 := below_next k1 b3)
    | (go_at_call 58; (with_reducible refine (DV.out _ k3).mono ?_); rintro e w4 ⟨rfl, b4⟩; have k4 := below_next k3 b4))
  all_goals go_ret
  all_goals first
    | exact ⟨ret_bool (by unfold namedI; first | (simp_all; done) | (simp_all [bne]; done)), below_new _ _⟩
    | exact ⟨ret_bool (by unfold namedI; first | (simp_all; done) | (simp_all [bne]; done)), k4⟩
    | exact ⟨ret_bool (by unfold namedI; first | (simp_all; done) | (simp_all [bne]; done)), k3⟩
    | exact ⟨ret_bool (by unfold namedI; first | (simp_all; done) | (simp_all [bne]; done)), k2⟩
    | exact ⟨ret_bool (by unfold namedI; first | (simp_all; done) | (simp_all [bne]; done)), k1⟩
    | trace_state
end Go.Proofs.Ytmdmnchnkfjpjaa
