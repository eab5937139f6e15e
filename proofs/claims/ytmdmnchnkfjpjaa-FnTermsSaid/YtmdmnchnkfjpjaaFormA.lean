/-
  Contract of the program's isForm, at nodes of some kinds.
-/
import Derived.Test.YtmdmnchnkfjpjaaForm0
import Derived.Deep.RegionHeld3
namespace Go.Proofs.Ytmdmnchnkfjpjaa
open Go.RowKit
set_option maxRecDepth 100000
set_option linter.unusedVariables false
set_option linter.unusedSimpArgs false

set_option maxHeartbeats 6400000 in
theorem isForm_1 (t : Tm) (l : Lt) (w : World) (h : Md w t l) (hw : t.wt ≤ 1048576) (hk : t.kind = 1) :
    Calls Try.prog 27 #[.agg #[.int .i64 t.kind, .string t.name, .string t.other, .int .i64 t.n, .int .i64 t.type.kind, .slice l.ta l.tn l.tc, .int .i64 t.res.kind, .slice l.ra l.rn l.rc, .slice l.aa l.an l.ac]] w fun e w' => e = .returned (.bool (formI t)) ∧ Below w.heap.size w w' := by
  obtain ⟨-, ht, hre, hm⟩ := h.shape
  have hx : (l.an : Int) = (t.args.length : Int) := by rw [hm.1]
  have hf := formI_eq t
  rw [← hx] at hf
  have CA := hide fun W => arity_any t l W
  have CN := fun W (hW : Below w.heap.size w W) => isNamed_any t l W (h.below hW) hw
  have RT0 : ∀ W, Below w.heap.size w W → Rd W t.type (.int .i64 t.type.kind) (.slice l.ta l.tn l.tc) := fun W hW => ht.below hW
  have RR0 : ∀ W, Below w.heap.size w W → Rd W t.res (.int .i64 t.res.kind) (.slice l.ra l.rn l.rc) := fun W hW => hre.below hW
  have CE1 := hide fun W (hW : Below w.heap.size w W) => implEqualType_any t.type ⟨0, []⟩ _ _ _ _ W (RT0 W hW) (Rd_zero W)
  have CE2 := hide fun W (hW : Below w.heap.size w W) => implEqualType_any t.res ⟨0, []⟩ _ _ _ _ W (RR0 W hW) (Rd_zero W)
  clear ht hre hm hw hx RT0 RR0 h
  have k0 : Below w.heap.size w (w.alloc (.cells #[.int .i64 t.kind, .string t.name, .string t.other, .int .i64 t.n, .int .i64 t.type.kind, .slice l.ta l.tn l.tc, .int .i64 t.res.kind, .slice l.ra l.rn l.rc, .slice l.aa l.an l.ac] 29)) := below_new _ _
  obtain ⟨k, nm, ot, n, ty, re, xs⟩ := t
  dsimp only at *
  subst hk
  have WN : wantName ⟨1, nm, ot, n, ty, re, xs⟩ = nm := by simp [wantName]
  have WO : wantOther ⟨1, nm, ot, n, ty, re, xs⟩ = ⟨#[]⟩ := by simp [wantOther]
  have WI : wantN ⟨1, nm, ot, n, ty, re, xs⟩ = 0 := by simp [wantN]
  have WT : wantType ⟨1, nm, ot, n, ty, re, xs⟩ = ⟨0, []⟩ := by simp [wantType]
  have WR : wantRes ⟨1, nm, ot, n, ty, re, xs⟩ = ⟨0, []⟩ := by simp [wantRes]
  rw [WN, WO, WI, WT, WR] at hf
  clear WN WO WI WT WR
  cases hz : ((l.an : Int) == arityI 1 nm) with
  | false =>
    rw [hz] at hf
    rw [Bool.false_and] at hf
    replace hf := hide hf
    have hz1 : ((l.an : Int) != arityI 1 nm) = true := by simp [bne, hz]
    replace hz := hide hz
    have B0 := Blk.new w 29 #[.int .i64 1, .string nm, .string ot, .int .i64 n, .int .i64 ty.kind, .slice l.ta l.tn l.tc, .int .i64 re.kind, .slice l.ra l.rn l.rc, .slice l.aa l.an l.ac]
    have kd : Below w.heap.size w (w.alloc (.cells #[.int .i64 1, .string nm, .string ot, .int .i64 n, .int .i64 ty.kind, .slice l.ta l.tn l.tc, .int .i64 re.kind, .slice l.ra l.rn l.rc, .slice l.aa l.an l.ac] 29)).drew := below_next k0 (below_drew _)
    obtain ⟨u0, u1, u2, u3, u4, u5, u6, u7, u8⟩ := Blk.nine (t := ⟨1, nm, ot, n, ty, re, xs⟩) (l := l) B0
    dsimp only at u0 u1 u2 u3 u4 u5 u6 u7 u8
    go_enter Try.func27, Try.ntmps27
    go_wp2_with fail
    go_region_held3 (fun W => (W.cell? ⟨w.heap.size, 0, none⟩ = some (.int .i64 1) ∧ W.cell? ⟨w.heap.size, 1, none⟩ = some (.string nm) ∧ W.cell? ⟨w.heap.size, 2, none⟩ = some (.string ot) ∧ W.cell? ⟨w.heap.size, 3, none⟩ = some (.int .i64 n) ∧ W.cell? ⟨w.heap.size, 4, none⟩ = some (.int .i64 ty.kind) ∧ W.cell? ⟨w.heap.size, 5, none⟩ = some (.slice l.ta l.tn l.tc) ∧ W.cell? ⟨w.heap.size, 6, none⟩ = some (.int .i64 re.kind) ∧ W.cell? ⟨w.heap.size, 7, none⟩ = some (.slice l.ra l.rn l.rc) ∧ W.cell? ⟨w.heap.size, 8, none⟩ = some (.slice l.aa l.an l.ac)))
      (first | exact ⟨u0, u1, u2, u3, u4, u5, u6, u7, u8⟩ | exact Blk.nine (t := ⟨1, nm, ot, n, ty, re, xs⟩) (l := l) B1)
      (first
        | (go_at_call 42; (with_reducible refine (CA.out _).mono ?_); rintro e w1 ⟨rfl, b1⟩
           have B1 : Blk w1 _ _ _ := Blk.under (w := (w.alloc (.cells #[.int .i64 1, .string nm, .string ot, .int .i64 n, .int .i64 ty.kind, .slice l.ta l.tn l.tc, .int .i64 re.kind, .slice l.ra l.rn l.rc, .slice l.aa l.an l.ac] 29)).drew) B0 b1
           have k1 := below_next kd b1))
    go_wp2_with fail
    go_ret
    exact ⟨ret_bool hf.out.symm, k1⟩
  | true =>
    rw [hz] at hf
    rw [Bool.true_and] at hf
    have hz1 : ((l.an : Int) != arityI 1 nm) = false := by simp [bne, hz]
    replace hz := hide hz
    cases hn : namedI ⟨1, nm, ot, n, ty, re, xs⟩ with
    | false =>
      have CN1 := CN
      rw [hn] at hf CN1
      rw [Bool.false_and] at hf
      replace hf := hide hf
      replace CN1 := hide CN1
      replace hn := hide hn
      clear CN
      have B0 := Blk.new w 29 #[.int .i64 1, .string nm, .string ot, .int .i64 n, .int .i64 ty.kind, .slice l.ta l.tn l.tc, .int .i64 re.kind, .slice l.ra l.rn l.rc, .slice l.aa l.an l.ac]
      have kd : Below w.heap.size w (w.alloc (.cells #[.int .i64 1, .string nm, .string ot, .int .i64 n, .int .i64 ty.kind, .slice l.ta l.tn l.tc, .int .i64 re.kind, .slice l.ra l.rn l.rc, .slice l.aa l.an l.ac] 29)).drew := below_next k0 (below_drew _)
      obtain ⟨u0, u1, u2, u3, u4, u5, u6, u7, u8⟩ := Blk.nine (t := ⟨1, nm, ot, n, ty, re, xs⟩) (l := l) B0
      dsimp only at u0 u1 u2 u3 u4 u5 u6 u7 u8
      go_enter Try.func27, Try.ntmps27
      go_wp2_with fail
      go_region_held3 (fun W => (W.cell? ⟨w.heap.size, 0, none⟩ = some (.int .i64 1) ∧ W.cell? ⟨w.heap.size, 1, none⟩ = some (.string nm) ∧ W.cell? ⟨w.heap.size, 2, none⟩ = some (.string ot) ∧ W.cell? ⟨w.heap.size, 3, none⟩ = some (.int .i64 n) ∧ W.cell? ⟨w.heap.size, 4, none⟩ = some (.int .i64 ty.kind) ∧ W.cell? ⟨w.heap.size, 5, none⟩ = some (.slice l.ta l.tn l.tc) ∧ W.cell? ⟨w.heap.size, 6, none⟩ = some (.int .i64 re.kind) ∧ W.cell? ⟨w.heap.size, 7, none⟩ = some (.slice l.ra l.rn l.rc) ∧ W.cell? ⟨w.heap.size, 8, none⟩ = some (.slice l.aa l.an l.ac)))
        (first | exact ⟨u0, u1, u2, u3, u4, u5, u6, u7, u8⟩ | exact Blk.nine (t := ⟨1, nm, ot, n, ty, re, xs⟩) (l := l) B1)
        (first
          | (go_at_call 42; (with_reducible refine (CA.out _).mono ?_); rintro e w1 ⟨rfl, b1⟩
             have B1 : Blk w1 _ _ _ := Blk.under (w := (w.alloc (.cells #[.int .i64 1, .string nm, .string ot, .int .i64 n, .int .i64 ty.kind, .slice l.ta l.tn l.tc, .int .i64 re.kind, .slice l.ra l.rn l.rc, .slice l.aa l.an l.ac] 29)).drew) B0 b1
             have k1 := below_next kd b1))
      obtain ⟨v0, v1, v2, v3, v4, v5, v6, v7, v8⟩ := Blk.nine (t := ⟨1, nm, ot, n, ty, re, xs⟩) (l := l) B1
      dsimp only at v0 v1 v2 v3 v4 v5 v6 v7 v8
      obtain ⟨r0, r1, r2, r3, r4, r5, r6, r7, r8⟩ := Blk.nine_new (t := ⟨1, nm, ot, n, ty, re, xs⟩) (l := l) B1
      dsimp only at r0 r1 r2 r3 r4 r5 r6 r7 r8
      have km : Below w.heap.size w (w1.alloc (.cells #[.int .i64 1, .string nm, .string ⟨#[]⟩, .int .i64 0, .int .i64 0, .slice none 0 0, .int .i64 0, .slice none 0 0, .slice none 0 0] 29)) := below_next k1 (below_new _ _)
      go_wp2_with (first
          | (go_at_call 43; (with_reducible refine (CN1.out _ km).mono ?_); rintro e w2 ⟨rfl, b2⟩
             have k2 := below_next km b2
             have B2 : Blk w2 _ _ _ := Blk.under (w := (w1.alloc (.cells #[.int .i64 1, .string nm, .string ⟨#[]⟩, .int .i64 0, .int .i64 0, .slice none 0 0, .int .i64 0, .slice none 0 0, .slice none 0 0] 29))) (B1.alloc _) b2
             have M2 : Blk w2 _ _ _ := Blk.under (w := (w1.alloc (.cells #[.int .i64 1, .string nm, .string ⟨#[]⟩, .int .i64 0, .int .i64 0, .slice none 0 0, .int .i64 0, .slice none 0 0, .slice none 0 0] 29))) (Blk.new w1 29 #[.int .i64 1, .string nm, .string ⟨#[]⟩, .int .i64 0, .int .i64 0, .slice none 0 0, .int .i64 0, .slice none 0 0, .slice none 0 0]) b2
             obtain ⟨p0, p1, p2, p3, p4, p5, p6, p7, p8⟩ := Blk.nine (t := ⟨1, nm, ot, n, ty, re, xs⟩) (l := l) B2
             dsimp only at p0 p1 p2 p3 p4 p5 p6 p7 p8
             obtain ⟨q0, q1, q2, q3, q4, q5, q6, q7, q8⟩ : _ ∧ _ ∧ _ ∧ _ ∧ _ ∧ _ ∧ _ ∧ _ ∧ _ := ⟨M2.cell 0, M2.cell 1, M2.cell 2, M2.cell 3, M2.cell 4, M2.cell 5, M2.cell 6, M2.cell 7, M2.cell 8⟩
             simp at q0 q1 q2 q3 q4 q5 q6 q7 q8)
          | (go_at_call 30; (with_reducible refine (CE1.out _ k2).mono ?_); rintro e w3 ⟨rfl, b3⟩
             have k3 := below_next k2 b3
             have B3 := B2.under b3
             have M3 := M2.under b3
             obtain ⟨p0', p1', p2', p3', p4', p5', p6', p7', p8'⟩ := Blk.nine (t := ⟨1, nm, ot, n, ty, re, xs⟩) (l := l) B3
             dsimp only at p0' p1' p2' p3' p4' p5' p6' p7' p8'
             obtain ⟨q0', q1', q2', q3', q4', q5', q6', q7', q8'⟩ : _ ∧ _ ∧ _ ∧ _ ∧ _ ∧ _ ∧ _ ∧ _ ∧ _ := ⟨M3.cell 0, M3.cell 1, M3.cell 2, M3.cell 3, M3.cell 4, M3.cell 5, M3.cell 6, M3.cell 7, M3.cell 8⟩
             simp at q0' q1' q2' q3' q4' q5' q6' q7' q8')
          | (go_at_call 30; (with_reducible refine (CE2.out _ k3).mono ?_); rintro e w4 ⟨rfl, b4⟩
             have k4 := below_next k3 b4))
      all_goals go_ret
      all_goals exact ⟨ret_bool hf.out.symm, k2⟩
    | true =>
      have CN1 := CN
      rw [hn] at hf CN1
      rw [Bool.true_and] at hf
      replace hf := hide hf
      replace CN1 := hide CN1
      replace hn := hide hn
      clear CN
      have B0 := Blk.new w 29 #[.int .i64 1, .string nm, .string ot, .int .i64 n, .int .i64 ty.kind, .slice l.ta l.tn l.tc, .int .i64 re.kind, .slice l.ra l.rn l.rc, .slice l.aa l.an l.ac]
      have kd : Below w.heap.size w (w.alloc (.cells #[.int .i64 1, .string nm, .string ot, .int .i64 n, .int .i64 ty.kind, .slice l.ta l.tn l.tc, .int .i64 re.kind, .slice l.ra l.rn l.rc, .slice l.aa l.an l.ac] 29)).drew := below_next k0 (below_drew _)
      obtain ⟨u0, u1, u2, u3, u4, u5, u6, u7, u8⟩ := Blk.nine (t := ⟨1, nm, ot, n, ty, re, xs⟩) (l := l) B0
      dsimp only at u0 u1 u2 u3 u4 u5 u6 u7 u8
      go_enter Try.func27, Try.ntmps27
      go_wp2_with fail
      go_region_held3 (fun W => (W.cell? ⟨w.heap.size, 0, none⟩ = some (.int .i64 1) ∧ W.cell? ⟨w.heap.size, 1, none⟩ = some (.string nm) ∧ W.cell? ⟨w.heap.size, 2, none⟩ = some (.string ot) ∧ W.cell? ⟨w.heap.size, 3, none⟩ = some (.int .i64 n) ∧ W.cell? ⟨w.heap.size, 4, none⟩ = some (.int .i64 ty.kind) ∧ W.cell? ⟨w.heap.size, 5, none⟩ = some (.slice l.ta l.tn l.tc) ∧ W.cell? ⟨w.heap.size, 6, none⟩ = some (.int .i64 re.kind) ∧ W.cell? ⟨w.heap.size, 7, none⟩ = some (.slice l.ra l.rn l.rc) ∧ W.cell? ⟨w.heap.size, 8, none⟩ = some (.slice l.aa l.an l.ac)))
        (first | exact ⟨u0, u1, u2, u3, u4, u5, u6, u7, u8⟩ | exact Blk.nine (t := ⟨1, nm, ot, n, ty, re, xs⟩) (l := l) B1)
        (first
          | (go_at_call 42; (with_reducible refine (CA.out _).mono ?_); rintro e w1 ⟨rfl, b1⟩
             have B1 : Blk w1 _ _ _ := Blk.under (w := (w.alloc (.cells #[.int .i64 1, .string nm, .string ot, .int .i64 n, .int .i64 ty.kind, .slice l.ta l.tn l.tc, .int .i64 re.kind, .slice l.ra l.rn l.rc, .slice l.aa l.an l.ac] 29)).drew) B0 b1
             have k1 := below_next kd b1))
      obtain ⟨v0, v1, v2, v3, v4, v5, v6, v7, v8⟩ := Blk.nine (t := ⟨1, nm, ot, n, ty, re, xs⟩) (l := l) B1
      dsimp only at v0 v1 v2 v3 v4 v5 v6 v7 v8
      obtain ⟨r0, r1, r2, r3, r4, r5, r6, r7, r8⟩ := Blk.nine_new (t := ⟨1, nm, ot, n, ty, re, xs⟩) (l := l) B1
      dsimp only at r0 r1 r2 r3 r4 r5 r6 r7 r8
      have km : Below w.heap.size w (w1.alloc (.cells #[.int .i64 1, .string nm, .string ⟨#[]⟩, .int .i64 0, .int .i64 0, .slice none 0 0, .int .i64 0, .slice none 0 0, .slice none 0 0] 29)) := below_next k1 (below_new _ _)
      go_wp2_with (first
          | (go_at_call 43; (with_reducible refine (CN1.out _ km).mono ?_); rintro e w2 ⟨rfl, b2⟩
             have k2 := below_next km b2
             have B2 : Blk w2 _ _ _ := Blk.under (w := (w1.alloc (.cells #[.int .i64 1, .string nm, .string ⟨#[]⟩, .int .i64 0, .int .i64 0, .slice none 0 0, .int .i64 0, .slice none 0 0, .slice none 0 0] 29))) (B1.alloc _) b2
             have M2 : Blk w2 _ _ _ := Blk.under (w := (w1.alloc (.cells #[.int .i64 1, .string nm, .string ⟨#[]⟩, .int .i64 0, .int .i64 0, .slice none 0 0, .int .i64 0, .slice none 0 0, .slice none 0 0] 29))) (Blk.new w1 29 #[.int .i64 1, .string nm, .string ⟨#[]⟩, .int .i64 0, .int .i64 0, .slice none 0 0, .int .i64 0, .slice none 0 0, .slice none 0 0]) b2
             obtain ⟨p0, p1, p2, p3, p4, p5, p6, p7, p8⟩ := Blk.nine (t := ⟨1, nm, ot, n, ty, re, xs⟩) (l := l) B2
             dsimp only at p0 p1 p2 p3 p4 p5 p6 p7 p8
             obtain ⟨q0, q1, q2, q3, q4, q5, q6, q7, q8⟩ : _ ∧ _ ∧ _ ∧ _ ∧ _ ∧ _ ∧ _ ∧ _ ∧ _ := ⟨M2.cell 0, M2.cell 1, M2.cell 2, M2.cell 3, M2.cell 4, M2.cell 5, M2.cell 6, M2.cell 7, M2.cell 8⟩
             simp at q0 q1 q2 q3 q4 q5 q6 q7 q8)
          | (go_at_call 30; (with_reducible refine (CE1.out _ k2).mono ?_); rintro e w3 ⟨rfl, b3⟩
             have k3 := below_next k2 b3
             have B3 := B2.under b3
             have M3 := M2.under b3
             obtain ⟨p0', p1', p2', p3', p4', p5', p6', p7', p8'⟩ := Blk.nine (t := ⟨1, nm, ot, n, ty, re, xs⟩) (l := l) B3
             dsimp only at p0' p1' p2' p3' p4' p5' p6' p7' p8'
             obtain ⟨q0', q1', q2', q3', q4', q5', q6', q7', q8'⟩ : _ ∧ _ ∧ _ ∧ _ ∧ _ ∧ _ ∧ _ ∧ _ ∧ _ := ⟨M3.cell 0, M3.cell 1, M3.cell 2, M3.cell 3, M3.cell 4, M3.cell 5, M3.cell 6, M3.cell 7, M3.cell 8⟩
             simp at q0' q1' q2' q3' q4' q5' q6' q7' q8')
          | (go_at_call 30; (with_reducible refine (CE2.out _ k3).mono ?_); rintro e w4 ⟨rfl, b4⟩
             have k4 := below_next k3 b4))
      all_goals go_ret
      all_goals first
        | exact ⟨ret_bool (by rw [hf.out]; simp_all), k4⟩
        | exact ⟨ret_bool (by rw [hf.out]; simp_all), k3⟩
        | exact ⟨ret_bool (by rw [hf.out]; simp_all), k2⟩
        | trace_state

set_option maxHeartbeats 6400000 in
theorem isForm_8 (t : Tm) (l : Lt) (w : World) (h : Md w t l) (hw : t.wt ≤ 1048576) (hk : t.kind = 8) :
    Calls Try.prog 27 #[.agg #[.int .i64 t.kind, .string t.name, .string t.other, .int .i64 t.n, .int .i64 t.type.kind, .slice l.ta l.tn l.tc, .int .i64 t.res.kind, .slice l.ra l.rn l.rc, .slice l.aa l.an l.ac]] w fun e w' => e = .returned (.bool (formI t)) ∧ Below w.heap.size w w' := by
  obtain ⟨-, ht, hre, hm⟩ := h.shape
  have hx : (l.an : Int) = (t.args.length : Int) := by rw [hm.1]
  have hf := formI_eq t
  rw [← hx] at hf
  have CA := hide fun W => arity_any t l W
  have CN := fun W (hW : Below w.heap.size w W) => isNamed_any t l W (h.below hW) hw
  have RT0 : ∀ W, Below w.heap.size w W → Rd W t.type (.int .i64 t.type.kind) (.slice l.ta l.tn l.tc) := fun W hW => ht.below hW
  have RR0 : ∀ W, Below w.heap.size w W → Rd W t.res (.int .i64 t.res.kind) (.slice l.ra l.rn l.rc) := fun W hW => hre.below hW
  have CE1 := hide fun W (hW : Below w.heap.size w W) => implEqualType_any t.type ⟨0, []⟩ _ _ _ _ W (RT0 W hW) (Rd_zero W)
  have CE2 := hide fun W (hW : Below w.heap.size w W) => implEqualType_any t.res ⟨0, []⟩ _ _ _ _ W (RR0 W hW) (Rd_zero W)
  clear ht hre hm hw hx RT0 RR0 h
  have k0 : Below w.heap.size w (w.alloc (.cells #[.int .i64 t.kind, .string t.name, .string t.other, .int .i64 t.n, .int .i64 t.type.kind, .slice l.ta l.tn l.tc, .int .i64 t.res.kind, .slice l.ra l.rn l.rc, .slice l.aa l.an l.ac] 29)) := below_new _ _
  obtain ⟨k, nm, ot, n, ty, re, xs⟩ := t
  dsimp only at *
  subst hk
  have WN : wantName ⟨8, nm, ot, n, ty, re, xs⟩ = nm := by simp [wantName]
  have WO : wantOther ⟨8, nm, ot, n, ty, re, xs⟩ = ⟨#[]⟩ := by simp [wantOther]
  have WI : wantN ⟨8, nm, ot, n, ty, re, xs⟩ = 0 := by simp [wantN]
  have WT : wantType ⟨8, nm, ot, n, ty, re, xs⟩ = ⟨0, []⟩ := by simp [wantType]
  have WR : wantRes ⟨8, nm, ot, n, ty, re, xs⟩ = ⟨0, []⟩ := by simp [wantRes]
  rw [WN, WO, WI, WT, WR] at hf
  clear WN WO WI WT WR
  cases hz : ((l.an : Int) == arityI 8 nm) with
  | false =>
    rw [hz] at hf
    rw [Bool.false_and] at hf
    replace hf := hide hf
    have hz1 : ((l.an : Int) != arityI 8 nm) = true := by simp [bne, hz]
    replace hz := hide hz
    have B0 := Blk.new w 29 #[.int .i64 8, .string nm, .string ot, .int .i64 n, .int .i64 ty.kind, .slice l.ta l.tn l.tc, .int .i64 re.kind, .slice l.ra l.rn l.rc, .slice l.aa l.an l.ac]
    have kd : Below w.heap.size w (w.alloc (.cells #[.int .i64 8, .string nm, .string ot, .int .i64 n, .int .i64 ty.kind, .slice l.ta l.tn l.tc, .int .i64 re.kind, .slice l.ra l.rn l.rc, .slice l.aa l.an l.ac] 29)).drew := below_next k0 (below_drew _)
    obtain ⟨u0, u1, u2, u3, u4, u5, u6, u7, u8⟩ := Blk.nine (t := ⟨8, nm, ot, n, ty, re, xs⟩) (l := l) B0
    dsimp only at u0 u1 u2 u3 u4 u5 u6 u7 u8
    go_enter Try.func27, Try.ntmps27
    go_wp2_with fail
    go_region_held3 (fun W => (W.cell? ⟨w.heap.size, 0, none⟩ = some (.int .i64 8) ∧ W.cell? ⟨w.heap.size, 1, none⟩ = some (.string nm) ∧ W.cell? ⟨w.heap.size, 2, none⟩ = some (.string ot) ∧ W.cell? ⟨w.heap.size, 3, none⟩ = some (.int .i64 n) ∧ W.cell? ⟨w.heap.size, 4, none⟩ = some (.int .i64 ty.kind) ∧ W.cell? ⟨w.heap.size, 5, none⟩ = some (.slice l.ta l.tn l.tc) ∧ W.cell? ⟨w.heap.size, 6, none⟩ = some (.int .i64 re.kind) ∧ W.cell? ⟨w.heap.size, 7, none⟩ = some (.slice l.ra l.rn l.rc) ∧ W.cell? ⟨w.heap.size, 8, none⟩ = some (.slice l.aa l.an l.ac)))
      (first | exact ⟨u0, u1, u2, u3, u4, u5, u6, u7, u8⟩ | exact Blk.nine (t := ⟨8, nm, ot, n, ty, re, xs⟩) (l := l) B1)
      (first
        | (go_at_call 42; (with_reducible refine (CA.out _).mono ?_); rintro e w1 ⟨rfl, b1⟩
           have B1 : Blk w1 _ _ _ := Blk.under (w := (w.alloc (.cells #[.int .i64 8, .string nm, .string ot, .int .i64 n, .int .i64 ty.kind, .slice l.ta l.tn l.tc, .int .i64 re.kind, .slice l.ra l.rn l.rc, .slice l.aa l.an l.ac] 29)).drew) B0 b1
           have k1 := below_next kd b1))
    go_wp2_with fail
    go_ret
    exact ⟨ret_bool hf.out.symm, k1⟩
  | true =>
    rw [hz] at hf
    rw [Bool.true_and] at hf
    have hz1 : ((l.an : Int) != arityI 8 nm) = false := by simp [bne, hz]
    replace hz := hide hz
    cases hn : namedI ⟨8, nm, ot, n, ty, re, xs⟩ with
    | false =>
      have CN1 := CN
      rw [hn] at hf CN1
      rw [Bool.false_and] at hf
      replace hf := hide hf
      replace CN1 := hide CN1
      replace hn := hide hn
      clear CN
      have B0 := Blk.new w 29 #[.int .i64 8, .string nm, .string ot, .int .i64 n, .int .i64 ty.kind, .slice l.ta l.tn l.tc, .int .i64 re.kind, .slice l.ra l.rn l.rc, .slice l.aa l.an l.ac]
      have kd : Below w.heap.size w (w.alloc (.cells #[.int .i64 8, .string nm, .string ot, .int .i64 n, .int .i64 ty.kind, .slice l.ta l.tn l.tc, .int .i64 re.kind, .slice l.ra l.rn l.rc, .slice l.aa l.an l.ac] 29)).drew := below_next k0 (below_drew _)
      obtain ⟨u0, u1, u2, u3, u4, u5, u6, u7, u8⟩ := Blk.nine (t := ⟨8, nm, ot, n, ty, re, xs⟩) (l := l) B0
      dsimp only at u0 u1 u2 u3 u4 u5 u6 u7 u8
      go_enter Try.func27, Try.ntmps27
      go_wp2_with fail
      go_region_held3 (fun W => (W.cell? ⟨w.heap.size, 0, none⟩ = some (.int .i64 8) ∧ W.cell? ⟨w.heap.size, 1, none⟩ = some (.string nm) ∧ W.cell? ⟨w.heap.size, 2, none⟩ = some (.string ot) ∧ W.cell? ⟨w.heap.size, 3, none⟩ = some (.int .i64 n) ∧ W.cell? ⟨w.heap.size, 4, none⟩ = some (.int .i64 ty.kind) ∧ W.cell? ⟨w.heap.size, 5, none⟩ = some (.slice l.ta l.tn l.tc) ∧ W.cell? ⟨w.heap.size, 6, none⟩ = some (.int .i64 re.kind) ∧ W.cell? ⟨w.heap.size, 7, none⟩ = some (.slice l.ra l.rn l.rc) ∧ W.cell? ⟨w.heap.size, 8, none⟩ = some (.slice l.aa l.an l.ac)))
        (first | exact ⟨u0, u1, u2, u3, u4, u5, u6, u7, u8⟩ | exact Blk.nine (t := ⟨8, nm, ot, n, ty, re, xs⟩) (l := l) B1)
        (first
          | (go_at_call 42; (with_reducible refine (CA.out _).mono ?_); rintro e w1 ⟨rfl, b1⟩
             have B1 : Blk w1 _ _ _ := Blk.under (w := (w.alloc (.cells #[.int .i64 8, .string nm, .string ot, .int .i64 n, .int .i64 ty.kind, .slice l.ta l.tn l.tc, .int .i64 re.kind, .slice l.ra l.rn l.rc, .slice l.aa l.an l.ac] 29)).drew) B0 b1
             have k1 := below_next kd b1))
      obtain ⟨v0, v1, v2, v3, v4, v5, v6, v7, v8⟩ := Blk.nine (t := ⟨8, nm, ot, n, ty, re, xs⟩) (l := l) B1
      dsimp only at v0 v1 v2 v3 v4 v5 v6 v7 v8
      obtain ⟨r0, r1, r2, r3, r4, r5, r6, r7, r8⟩ := Blk.nine_new (t := ⟨8, nm, ot, n, ty, re, xs⟩) (l := l) B1
      dsimp only at r0 r1 r2 r3 r4 r5 r6 r7 r8
      have km : Below w.heap.size w (w1.alloc (.cells #[.int .i64 8, .string nm, .string ⟨#[]⟩, .int .i64 0, .int .i64 0, .slice none 0 0, .int .i64 0, .slice none 0 0, .slice none 0 0] 29)) := below_next k1 (below_new _ _)
      go_wp2_with (first
          | (go_at_call 43; (with_reducible refine (CN1.out _ km).mono ?_); rintro e w2 ⟨rfl, b2⟩
             have k2 := below_next km b2
             have B2 : Blk w2 _ _ _ := Blk.under (w := (w1.alloc (.cells #[.int .i64 8, .string nm, .string ⟨#[]⟩, .int .i64 0, .int .i64 0, .slice none 0 0, .int .i64 0, .slice none 0 0, .slice none 0 0] 29))) (B1.alloc _) b2
             have M2 : Blk w2 _ _ _ := Blk.under (w := (w1.alloc (.cells #[.int .i64 8, .string nm, .string ⟨#[]⟩, .int .i64 0, .int .i64 0, .slice none 0 0, .int .i64 0, .slice none 0 0, .slice none 0 0] 29))) (Blk.new w1 29 #[.int .i64 8, .string nm, .string ⟨#[]⟩, .int .i64 0, .int .i64 0, .slice none 0 0, .int .i64 0, .slice none 0 0, .slice none 0 0]) b2
             obtain ⟨p0, p1, p2, p3, p4, p5, p6, p7, p8⟩ := Blk.nine (t := ⟨8, nm, ot, n, ty, re, xs⟩) (l := l) B2
             dsimp only at p0 p1 p2 p3 p4 p5 p6 p7 p8
             obtain ⟨q0, q1, q2, q3, q4, q5, q6, q7, q8⟩ : _ ∧ _ ∧ _ ∧ _ ∧ _ ∧ _ ∧ _ ∧ _ ∧ _ := ⟨M2.cell 0, M2.cell 1, M2.cell 2, M2.cell 3, M2.cell 4, M2.cell 5, M2.cell 6, M2.cell 7, M2.cell 8⟩
             simp at q0 q1 q2 q3 q4 q5 q6 q7 q8)
          | (go_at_call 30; (with_reducible refine (CE1.out _ k2).mono ?_); rintro e w3 ⟨rfl, b3⟩
             have k3 := below_next k2 b3
             have B3 := B2.under b3
             have M3 := M2.under b3
             obtain ⟨p0', p1', p2', p3', p4', p5', p6', p7', p8'⟩ := Blk.nine (t := ⟨8, nm, ot, n, ty, re, xs⟩) (l := l) B3
             dsimp only at p0' p1' p2' p3' p4' p5' p6' p7' p8'
             obtain ⟨q0', q1', q2', q3', q4', q5', q6', q7', q8'⟩ : _ ∧ _ ∧ _ ∧ _ ∧ _ ∧ _ ∧ _ ∧ _ ∧ _ := ⟨M3.cell 0, M3.cell 1, M3.cell 2, M3.cell 3, M3.cell 4, M3.cell 5, M3.cell 6, M3.cell 7, M3.cell 8⟩
             simp at q0' q1' q2' q3' q4' q5' q6' q7' q8')
          | (go_at_call 30; (with_reducible refine (CE2.out _ k3).mono ?_); rintro e w4 ⟨rfl, b4⟩
             have k4 := below_next k3 b4))
      all_goals go_ret
      all_goals exact ⟨ret_bool hf.out.symm, k2⟩
    | true =>
      have CN1 := CN
      rw [hn] at hf CN1
      rw [Bool.true_and] at hf
      replace hf := hide hf
      replace CN1 := hide CN1
      replace hn := hide hn
      clear CN
      have B0 := Blk.new w 29 #[.int .i64 8, .string nm, .string ot, .int .i64 n, .int .i64 ty.kind, .slice l.ta l.tn l.tc, .int .i64 re.kind, .slice l.ra l.rn l.rc, .slice l.aa l.an l.ac]
      have kd : Below w.heap.size w (w.alloc (.cells #[.int .i64 8, .string nm, .string ot, .int .i64 n, .int .i64 ty.kind, .slice l.ta l.tn l.tc, .int .i64 re.kind, .slice l.ra l.rn l.rc, .slice l.aa l.an l.ac] 29)).drew := below_next k0 (below_drew _)
      obtain ⟨u0, u1, u2, u3, u4, u5, u6, u7, u8⟩ := Blk.nine (t := ⟨8, nm, ot, n, ty, re, xs⟩) (l := l) B0
      dsimp only at u0 u1 u2 u3 u4 u5 u6 u7 u8
      go_enter Try.func27, Try.ntmps27
      go_wp2_with fail
      go_region_held3 (fun W => (W.cell? ⟨w.heap.size, 0, none⟩ = some (.int .i64 8) ∧ W.cell? ⟨w.heap.size, 1, none⟩ = some (.string nm) ∧ W.cell? ⟨w.heap.size, 2, none⟩ = some (.string ot) ∧ W.cell? ⟨w.heap.size, 3, none⟩ = some (.int .i64 n) ∧ W.cell? ⟨w.heap.size, 4, none⟩ = some (.int .i64 ty.kind) ∧ W.cell? ⟨w.heap.size, 5, none⟩ = some (.slice l.ta l.tn l.tc) ∧ W.cell? ⟨w.heap.size, 6, none⟩ = some (.int .i64 re.kind) ∧ W.cell? ⟨w.heap.size, 7, none⟩ = some (.slice l.ra l.rn l.rc) ∧ W.cell? ⟨w.heap.size, 8, none⟩ = some (.slice l.aa l.an l.ac)))
        (first | exact ⟨u0, u1, u2, u3, u4, u5, u6, u7, u8⟩ | exact Blk.nine (t := ⟨8, nm, ot, n, ty, re, xs⟩) (l := l) B1)
        (first
          | (go_at_call 42; (with_reducible refine (CA.out _).mono ?_); rintro e w1 ⟨rfl, b1⟩
             have B1 : Blk w1 _ _ _ := Blk.under (w := (w.alloc (.cells #[.int .i64 8, .string nm, .string ot, .int .i64 n, .int .i64 ty.kind, .slice l.ta l.tn l.tc, .int .i64 re.kind, .slice l.ra l.rn l.rc, .slice l.aa l.an l.ac] 29)).drew) B0 b1
             have k1 := below_next kd b1))
      obtain ⟨v0, v1, v2, v3, v4, v5, v6, v7, v8⟩ := Blk.nine (t := ⟨8, nm, ot, n, ty, re, xs⟩) (l := l) B1
      dsimp only at v0 v1 v2 v3 v4 v5 v6 v7 v8
      obtain ⟨r0, r1, r2, r3, r4, r5, r6, r7, r8⟩ := Blk.nine_new (t := ⟨8, nm, ot, n, ty, re, xs⟩) (l := l) B1
      dsimp only at r0 r1 r2 r3 r4 r5 r6 r7 r8
      have km : Below w.heap.size w (w1.alloc (.cells #[.int .i64 8, .string nm, .string ⟨#[]⟩, .int .i64 0, .int .i64 0, .slice none 0 0, .int .i64 0, .slice none 0 0, .slice none 0 0] 29)) := below_next k1 (below_new _ _)
      go_wp2_with (first
          | (go_at_call 43; (with_reducible refine (CN1.out _ km).mono ?_); rintro e w2 ⟨rfl, b2⟩
             have k2 := below_next km b2
             have B2 : Blk w2 _ _ _ := Blk.under (w := (w1.alloc (.cells #[.int .i64 8, .string nm, .string ⟨#[]⟩, .int .i64 0, .int .i64 0, .slice none 0 0, .int .i64 0, .slice none 0 0, .slice none 0 0] 29))) (B1.alloc _) b2
             have M2 : Blk w2 _ _ _ := Blk.under (w := (w1.alloc (.cells #[.int .i64 8, .string nm, .string ⟨#[]⟩, .int .i64 0, .int .i64 0, .slice none 0 0, .int .i64 0, .slice none 0 0, .slice none 0 0] 29))) (Blk.new w1 29 #[.int .i64 8, .string nm, .string ⟨#[]⟩, .int .i64 0, .int .i64 0, .slice none 0 0, .int .i64 0, .slice none 0 0, .slice none 0 0]) b2
             obtain ⟨p0, p1, p2, p3, p4, p5, p6, p7, p8⟩ := Blk.nine (t := ⟨8, nm, ot, n, ty, re, xs⟩) (l := l) B2
             dsimp only at p0 p1 p2 p3 p4 p5 p6 p7 p8
             obtain ⟨q0, q1, q2, q3, q4, q5, q6, q7, q8⟩ : _ ∧ _ ∧ _ ∧ _ ∧ _ ∧ _ ∧ _ ∧ _ ∧ _ := ⟨M2.cell 0, M2.cell 1, M2.cell 2, M2.cell 3, M2.cell 4, M2.cell 5, M2.cell 6, M2.cell 7, M2.cell 8⟩
             simp at q0 q1 q2 q3 q4 q5 q6 q7 q8)
          | (go_at_call 30; (with_reducible refine (CE1.out _ k2).mono ?_); rintro e w3 ⟨rfl, b3⟩
             have k3 := below_next k2 b3
             have B3 := B2.under b3
             have M3 := M2.under b3
             obtain ⟨p0', p1', p2', p3', p4', p5', p6', p7', p8'⟩ := Blk.nine (t := ⟨8, nm, ot, n, ty, re, xs⟩) (l := l) B3
             dsimp only at p0' p1' p2' p3' p4' p5' p6' p7' p8'
             obtain ⟨q0', q1', q2', q3', q4', q5', q6', q7', q8'⟩ : _ ∧ _ ∧ _ ∧ _ ∧ _ ∧ _ ∧ _ ∧ _ ∧ _ := ⟨M3.cell 0, M3.cell 1, M3.cell 2, M3.cell 3, M3.cell 4, M3.cell 5, M3.cell 6, M3.cell 7, M3.cell 8⟩
             simp at q0' q1' q2' q3' q4' q5' q6' q7' q8')
          | (go_at_call 30; (with_reducible refine (CE2.out _ k3).mono ?_); rintro e w4 ⟨rfl, b4⟩
             have k4 := below_next k3 b4))
      all_goals go_ret
      all_goals first
        | exact ⟨ret_bool (by rw [hf.out]; simp_all), k4⟩
        | exact ⟨ret_bool (by rw [hf.out]; simp_all), k3⟩
        | exact ⟨ret_bool (by rw [hf.out]; simp_all), k2⟩
        | trace_state
end Go.Proofs.Ytmdmnchnkfjpjaa
