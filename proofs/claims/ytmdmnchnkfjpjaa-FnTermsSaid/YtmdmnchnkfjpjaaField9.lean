/-
  Contract of l5Fields.
-/
import Derived.Test.YtmdmnchnkfjpjaaFormP
import Derived.Test.YtmdmnchnkfjpjaaTmSz
import Derived.Deep.RegionWith
namespace Go.Proofs.Ytmdmnchnkfjpjaa
open Go.RowKit
set_option maxRecDepth 100000
set_option linter.unusedVariables false
set_option linter.unusedSimpArgs false

set_option maxHeartbeats 6400000 in
theorem l5Fields_9 (t : Tm) (l : Lt) (w : World) (h : Md w t l) (hw : t.wt ≤ 1048576) (hk : t.kind = 9) :
    Calls Try.prog 28 #[.agg #[.int .i64 t.kind, .string t.name, .string t.other, .int .i64 t.n, .int .i64 t.type.kind, .slice l.ta l.tn l.tc, .int .i64 t.res.kind, .slice l.ra l.rn l.rc, .slice l.aa l.an l.ac]] w fun e w' => e = .returned (.bool (fieldsS t)) ∧ Below w.heap.size w w' := by
  obtain ⟨-, ht, hre, -⟩ := h.shape
  have hwt := t.wt_eq
  have h1 : t.name.size ≤ 1048576 := by omega
  have h2 : t.other.size ≤ 1048576 := by omega
  have CV := hide fun W (hW : Below w.heap.size w W) => specIsValidType_any t.type _ _ W (ht.below hW)
  have CZ := hide fun W (hW : Below w.heap.size w W) => l5Zero_any t.type _ _ W (ht.below hW)
  have DV := hide fun W (hW : Below w.heap.size w W) => specIsValidType_any t.res _ _ W (hre.below hW)
  have DZ := hide fun W (hW : Below w.heap.size w W) => l5Zero_any t.res _ _ W (hre.below hW)
  have NM := hide fun W => l5Names_any t l W h1 h2
  have k0 : Below w.heap.size w (w.alloc (.cells #[.int .i64 t.kind, .string t.name, .string t.other, .int .i64 t.n, .int .i64 t.type.kind, .slice l.ta l.tn l.tc, .int .i64 t.res.kind, .slice l.ra l.rn l.rc, .slice l.aa l.an l.ac] 29)) := below_new _ _
  have hf := fieldsS_eq t
  obtain ⟨k, nm, ot, n, ty, re, xs⟩ := t
  dsimp only at *
  subst hk
  cases hvt : ty.valid with
  | false =>
    rw [hvt] at CV hf
    simp at hf
    rw [hf]
    go_enter Try.func28, Try.ntmps28
    go_wp2_with (first | (go_at_call 44; (with_reducible refine (CV.out _ k0).mono ?_); rintro e w1 ⟨rfl, b1⟩; have k1 := below_of_alloc b1; have B1 := (Blk.new w _ _).under b1; obtain ⟨u0, u1, u2, u3, u4, u5, u6, u7, u8⟩ := Blk.nine (t := ⟨9, nm, ot, n, ty, re, xs⟩) (l := l) B1; dsimp only at u0 u1 u2 u3 u4 u5 u6 u7 u8))
    go_ret
    exact ⟨rfl, k1⟩
  | true =>
    rw [hvt] at CV hf
    cases hvr : re.valid with
    | false =>
      rw [hvr] at DV hf
      simp at hf
      rw [hf]
      go_enter Try.func28, Try.ntmps28
      go_wp2_with (first | (go_at_call 44; (with_reducible refine (CV.out _ k0).mono ?_); rintro e w1 ⟨rfl, b1⟩; have k1 := below_of_alloc b1; have B1 := (Blk.new w _ _).under b1; obtain ⟨u0, u1, u2, u3, u4, u5, u6, u7, u8⟩ := Blk.nine (t := ⟨9, nm, ot, n, ty, re, xs⟩) (l := l) B1; dsimp only at u0 u1 u2 u3 u4 u5 u6 u7 u8))
      have kd : Below w.heap.size w w1.drew := below_next k1 (below_drew _)
      have hun : undef = Value.tuple #[] := rfl
      first | go_region_with (first
          | (go_at_call 44; (with_reducible refine (DV.out _ kd).mono ?_); rintro e w3 ⟨rfl, b3⟩
             have B3 : Blk w3 _ _ _ := Blk.under (w := w1.drew) B1 b3
             have k3 := below_next kd b3
             obtain ⟨p0, p1, p2, p3, p4, p5, p6, p7, p8⟩ := Blk.nine (t := ⟨9, nm, ot, n, ty, re, xs⟩) (l := l) B3; dsimp only at p0 p1 p2 p3 p4 p5 p6 p7 p8)
          | (go_at_call 45; (with_reducible refine (DZ.out _ k3).mono ?_); rintro e w4 ⟨rfl, b4⟩
             have B4 := B3.under b4
             have k4 := below_next k3 b4
             obtain ⟨q0, q1, q2, q3, q4, q5, q6, q7, q8⟩ := Blk.nine (t := ⟨9, nm, ot, n, ty, re, xs⟩) (l := l) B4; dsimp only at q0 q1 q2 q3 q4 q5 q6 q7 q8)) | fail
      all_goals clear hun
      all_goals go_wp2_with fail
      all_goals go_ret
      all_goals exact ⟨rfl, k3⟩
    | true =>
      rw [hvr] at DV hf
      go_enter Try.func28, Try.ntmps28
      go_wp2_with (first | (go_at_call 44; (with_reducible refine (CV.out _ k0).mono ?_); rintro e w1 ⟨rfl, b1⟩; have k1 := below_of_alloc b1; have B1 := (Blk.new w _ _).under b1; obtain ⟨u0, u1, u2, u3, u4, u5, u6, u7, u8⟩ := Blk.nine (t := ⟨9, nm, ot, n, ty, re, xs⟩) (l := l) B1; dsimp only at u0 u1 u2 u3 u4 u5 u6 u7 u8))
      have kd : Below w.heap.size w w1.drew := below_next k1 (below_drew _)
      have hun : undef = Value.tuple #[] := rfl
      first | go_region_with (first
          | (go_at_call 44; (with_reducible refine (DV.out _ kd).mono ?_); rintro e w3 ⟨rfl, b3⟩
             have B3 : Blk w3 _ _ _ := Blk.under (w := w1.drew) B1 b3
             have k3 := below_next kd b3
             obtain ⟨p0, p1, p2, p3, p4, p5, p6, p7, p8⟩ := Blk.nine (t := ⟨9, nm, ot, n, ty, re, xs⟩) (l := l) B3; dsimp only at p0 p1 p2 p3 p4 p5 p6 p7 p8)
          | (go_at_call 45; (with_reducible refine (DZ.out _ k3).mono ?_); rintro e w4 ⟨rfl, b4⟩
             have B4 := B3.under b4
             have k4 := below_next k3 b4
             obtain ⟨q0, q1, q2, q3, q4, q5, q6, q7, q8⟩ := Blk.nine (t := ⟨9, nm, ot, n, ty, re, xs⟩) (l := l) B4; dsimp only at q0 q1 q2 q3 q4 q5 q6 q7 q8)) | fail
      all_goals clear hun
      all_goals go_wp2_with (first | (go_at_call 46; (with_reducible refine (l1In_any _ _ _ _).mono ?_); rintro e w5 ⟨rfl, rfl⟩) | (go_at_call 47; (with_reducible refine (NM.out _).mono ?_); rintro e w6 ⟨rfl, b6⟩))
      all_goals go_ret
      all_goals first
        | exact ⟨ret_bool (by rw [hf]; simp_all [mostN]), k3⟩
        | exact ⟨ret_bool (by rw [hf]; simp_all [mostN]), below_next k3 b6⟩
end Go.Proofs.Ytmdmnchnkfjpjaa
