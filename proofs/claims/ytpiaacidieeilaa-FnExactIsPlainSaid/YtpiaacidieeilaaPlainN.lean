/-
  Contract of the function literal of the program's IsPlain.
-/
import Derived.Test.YtpiaacidieeilaaFormM
import Derived.Test.YtpiaacidieeilaaPlainTy
import Derived.Test.YtpiaacidieeilaaBit
namespace Go.Proofs.Ytpiaacidieeilaa
open Go.RowKit
set_option linter.unusedVariables false
set_option linter.unusedSimpArgs false

/-- The program's test of a plain node. -/
def Tm.plainNode (t : Tm) : Bool := !inB t.kind 10 13 && (!(t.kind == 6 || t.kind == 9) || (t.type.plain && (t.kind == 6 || t.res.plain)))
theorem Tm.plainNode_eq (t : Tm) : t.plainNode = (!inB t.kind 10 13 && (!(t.kind == 6 || t.kind == 9) || (t.type.plain && (t.kind == 6 || t.res.plain)))) := rfl

set_option maxHeartbeats 3200000 in
theorem plainNode_any (t : Tm) (l : Lt) (w : World) (h : Md w t l) (hw : t.wt ≤ 1048576) :
    Calls Try.prog 42 #[.agg #[.int .i64 t.kind, .string t.name, .string t.other, .int .i64 t.n, .int .i64 t.type.kind, .slice l.ta l.tn l.tc, .int .i64 t.res.kind, .slice l.ra l.rn l.rc, .slice l.aa l.an l.ac]] w fun e w' => e = .returned (.bool t.plainNode) ∧ Below w.heap.size w w' := by
  obtain ⟨-, ht, hre, -⟩ := h.shape
  have hwt := t.wt_eq
  have z1 : Ty.sizes t.type.args ≤ 1048576 := by omega
  have z2 : Ty.sizes t.res.args ≤ 1048576 := by omega
  have CV := hide fun W (hW : Below w.heap.size w W) => implIsPlainType_any t.type _ _ W (ht.below hW) z1
  have DV := hide fun W (hW : Below w.heap.size w W) => implIsPlainType_any t.res _ _ W (hre.below hW) z2
  have k0 : Below w.heap.size w (w.alloc (.cells #[.int .i64 t.kind, .string t.name, .string t.other, .int .i64 t.n, .int .i64 t.type.kind, .slice l.ta l.tn l.tc, .int .i64 t.res.kind, .slice l.ra l.rn l.rc, .slice l.aa l.an l.ac] 35)) := below_new _ _
  have B0 := Blk.new w 35 #[.int .i64 t.kind, .string t.name, .string t.other, .int .i64 t.n, .int .i64 t.type.kind, .slice l.ta l.tn l.tc, .int .i64 t.res.kind, .slice l.ra l.rn l.rc, .slice l.aa l.an l.ac]
  have hf := t.plainNode_eq
  clear ht hre hwt hw z1 z2 h
  cases hs : inB t.kind 10 13 with
  | true =>
    rw [hs] at hf
    simp at hf
    replace hf := hide hf
    have CS := hide fun W => isStage_is hs W
    have h10 := inB_iff.1 hs
    have g6 : (t.kind == 6) = false := beq_eq_false_iff_ne.2 (by omega)
    have g9 : (t.kind == 9) = false := beq_eq_false_iff_ne.2 (by omega)
    clear hs h10
    go_enter Try.func42, Try.ntmps42
    go_wp2_with (go_at_call 43; (with_reducible refine (CS.out _).mono ?_); rintro e w1 ⟨rfl, rfl⟩)
    all_goals go_ret
    all_goals exact ⟨ret_bool hf.out.symm, k0⟩
  | false =>
    have CS := hide fun W => isStage_is hs W
    rw [hs] at hf
    clear hs
    by_cases h6 : t.kind = 6
    · have g6 := beq_iff_eq.2 h6
      simp [g6] at hf
      replace hf := hide hf
      clear h6
      go_enter Try.func42, Try.ntmps42
      go_wp2_with (first
        | (go_at_call 43; (with_reducible refine (CS.out _).mono ?_); rintro e w1 ⟨rfl, rfl⟩)
        | (go_at_call 44; (with_reducible refine (CV.out _ k0).mono ?_); rintro e w2 ⟨rfl, b2⟩
           have B2 := B0.under b2
           have k2 := below_next k0 b2
           obtain ⟨u0, u1, u2, u3, u4, u5, u6, u7, u8⟩ := B2.nine))
      all_goals go_ret
      all_goals exact ⟨ret_bool (by rw [hf.out]; simp_all), k2⟩
    · have g6 := beq_eq_false_iff_ne.2 h6
      by_cases h9 : t.kind = 9
      · have g9 := beq_iff_eq.2 h9
        simp [g6, g9] at hf
        replace hf := hide hf
        clear h6 h9
        go_enter Try.func42, Try.ntmps42
        go_wp2_with (first
          | (go_at_call 43; (with_reducible refine (CS.out _).mono ?_); rintro e w1 ⟨rfl, rfl⟩)
          | (go_at_call 44; (with_reducible refine (CV.out _ k0).mono ?_); rintro e w2 ⟨rfl, b2⟩
             have B2 := B0.under b2
             have k2 := below_next k0 b2
             obtain ⟨u0, u1, u2, u3, u4, u5, u6, u7, u8⟩ := B2.nine)
          | (go_at_call 44; (with_reducible refine (DV.out _ k2).mono ?_); rintro e w3 ⟨rfl, b3⟩
             have k3 := below_next k2 b3))
        all_goals go_ret
        all_goals first
          | exact ⟨ret_bool (by rw [hf.out]; simp_all), k3⟩
          | exact ⟨ret_bool (by rw [hf.out]; simp_all), k2⟩
      · have g9 := beq_eq_false_iff_ne.2 h9
        simp [g6, g9] at hf
        replace hf := hide hf
        clear h6 h9
        go_enter Try.func42, Try.ntmps42
        go_wp2_with (go_at_call 43; (with_reducible refine (CS.out _).mono ?_); rintro e w1 ⟨rfl, rfl⟩)
        all_goals go_ret
        all_goals exact ⟨ret_bool hf.out.symm, k0⟩
end Go.Proofs.Ytpiaacidieeilaa
