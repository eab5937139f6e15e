/-
  The forms of terms, second part; IsTerm.
-/
import Derived.Test.YtklifieahcoljaaGreatPkFm
import Derived.Deep.RegionHeld3
import Derived.Test.YtklifieahcoljaaGreatTmSz
import Derived.Deep.RegionWith
namespace Go.Proofs.YtklifieahcoljaaGreat
open Go.RowKit
set_option maxRecDepth 100000
set_option linter.unusedVariables false
set_option linter.unusedSimpArgs false

set_option maxHeartbeats 6400000 in
theorem isForm_6 (t : Tm) (l : Lt) (w : World) (h : Md w t l) (hw : t.wt ≤ 1048576) (hk : t.kind = 6) :
    Calls Tryz.prog 51 #[.agg #[.int .i64 t.kind, .string t.name, .string t.other, .int .i64 t.n, .int .i64 t.type.kind, .slice l.ta l.tn l.tc, .int .i64 t.res.kind, .slice l.ra l.rn l.rc, .slice l.aa l.an l.ac]] w fun e w' => e = .returned (.bool (formI t)) ∧ Below w.heap.size w w' := by
  obtain ⟨-, ht, hre, hm⟩ := h.shape
  have hx : (l.an : Int) = (t.args.length : Int) := by rw [hm.1]
  have hf := formI_eq t
  rw [← hx] at hf
  have CA := hide fun W => arity_any t l W
  have CN := fun W (hW : Below w.heap.size w W) => isNamed_any t l W (h.below hW) hw
  have RT0 : ∀ W, Below w.heap.size w W → Rd W t.type (.int .i64 t.type.kind) (.slice l.ta l.tn l.tc) := fun W hW => ht.below hW
  have RR0 : ∀ W, Below w.heap.size w W → Rd W t.res (.int .i64 t.res.kind) (.slice l.ra l.rn l.rc) := fun W hW => hre.below hW
  have CE1 := hide fun W (hW : Below w.heap.size w W) => implEqualType_any t.type t.type _ _ _ _ W (RT0 W hW) (RT0 W hW)
  have CE2 := hide fun W (hW : Below w.heap.size w W) => implEqualType_any t.res ⟨0, []⟩ _ _ _ _ W (RR0 W hW) (Rd_zero W)
  clear ht hre hm hw hx RT0 RR0 h
  have k0 : Below w.heap.size w (w.alloc (.cells #[.int .i64 t.kind, .string t.name, .string t.other, .int .i64 t.n, .int .i64 t.type.kind, .slice l.ta l.tn l.tc, .int .i64 t.res.kind, .slice l.ra l.rn l.rc, .slice l.aa l.an l.ac] 29)) := below_new _ _
  obtain ⟨k, nm, ot, n, ty, re, xs⟩ := t
  dsimp only at *
  subst hk
  have WN : wantName ⟨6, nm, ot, n, ty, re, xs⟩ = nm := by simp [wantName]
  have WO : wantOther ⟨6, nm, ot, n, ty, re, xs⟩ = ⟨#[]⟩ := by simp [wantOther]
  have WI : wantN ⟨6, nm, ot, n, ty, re, xs⟩ = 0 := by simp [wantN]
  have WT : wantType ⟨6, nm, ot, n, ty, re, xs⟩ = ty := by simp [wantType]
  have WR : wantRes ⟨6, nm, ot, n, ty, re, xs⟩ = ⟨0, []⟩ := by simp [wantRes]
  rw [WN, WO, WI, WT, WR] at hf
  clear WN WO WI WT WR
  cases hz : ((l.an : Int) == arityI 6 nm) with
  | false =>
    rw [hz] at hf
    rw [Bool.false_and] at hf
    replace hf := hide hf
    have hz1 : ((l.an : Int) != arityI 6 nm) = true := by simp [bne, hz]
    replace hz := hide hz
    have B0 := Blk.new w 29 #[.int .i64 6, .string nm, .string ot, .int .i64 n, .int .i64 ty.kind, .slice l.ta l.tn l.tc, .int .i64 re.kind, .slice l.ra l.rn l.rc, .slice l.aa l.an l.ac]
    have kd : Below w.heap.size w (w.alloc (.cells #[.int .i64 6, .string nm, .string ot, .int .i64 n, .int .i64 ty.kind, .slice l.ta l.tn l.tc, .int .i64 re.kind, .slice l.ra l.rn l.rc, .slice l.aa l.an l.ac] 29)).drew := below_next k0 (below_drew _)
    obtain ⟨u0, u1, u2, u3, u4, u5, u6, u7, u8⟩ := Blk.nine (t := ⟨6, nm, ot, n, ty, re, xs⟩) (l := l) B0
    dsimp only at u0 u1 u2 u3 u4 u5 u6 u7 u8
    go_enter Tryz.func51, Tryz.ntmps51
    go_wp2_with fail
    go_region_held3 (fun W => (W.cell? ⟨w.heap.size, 0, none⟩ = some (.int .i64 6) ∧ W.cell? ⟨w.heap.size, 1, none⟩ = some (.string nm) ∧ W.cell? ⟨w.heap.size, 2, none⟩ = some (.string ot) ∧ W.cell? ⟨w.heap.size, 3, none⟩ = some (.int .i64 n) ∧ W.cell? ⟨w.heap.size, 4, none⟩ = some (.int .i64 ty.kind) ∧ W.cell? ⟨w.heap.size, 5, none⟩ = some (.slice l.ta l.tn l.tc) ∧ W.cell? ⟨w.heap.size, 6, none⟩ = some (.int .i64 re.kind) ∧ W.cell? ⟨w.heap.size, 7, none⟩ = some (.slice l.ra l.rn l.rc) ∧ W.cell? ⟨w.heap.size, 8, none⟩ = some (.slice l.aa l.an l.ac)))
      (first | exact ⟨u0, u1, u2, u3, u4, u5, u6, u7, u8⟩ | exact Blk.nine (t := ⟨6, nm, ot, n, ty, re, xs⟩) (l := l) B1)
      (first
        | (go_at_call 77; (with_reducible refine (CA.out _).mono ?_); rintro e w1 ⟨rfl, b1⟩
           have B1 : Blk w1 _ _ _ := Blk.under (w := (w.alloc (.cells #[.int .i64 6, .string nm, .string ot, .int .i64 n, .int .i64 ty.kind, .slice l.ta l.tn l.tc, .int .i64 re.kind, .slice l.ra l.rn l.rc, .slice l.aa l.an l.ac] 29)).drew) B0 b1
           have k1 := below_next kd b1))
    go_wp2_with fail
    go_ret
    exact ⟨ret_bool hf.out.symm, k1⟩
  | true =>
    rw [hz] at hf
    rw [Bool.true_and] at hf
    have hz1 : ((l.an : Int) != arityI 6 nm) = false := by simp [bne, hz]
    replace hz := hide hz
    cases hn : namedI ⟨6, nm, ot, n, ty, re, xs⟩ with
    | false =>
      have CN1 := CN
      rw [hn] at hf CN1
      rw [Bool.false_and] at hf
      replace hf := hide hf
      replace CN1 := hide CN1
      replace hn := hide hn
      clear CN
      have B0 := Blk.new w 29 #[.int .i64 6, .string nm, .string ot, .int .i64 n, .int .i64 ty.kind, .slice l.ta l.tn l.tc, .int .i64 re.kind, .slice l.ra l.rn l.rc, .slice l.aa l.an l.ac]
      have kd : Below w.heap.size w (w.alloc (.cells #[.int .i64 6, .string nm, .string ot, .int .i64 n, .int .i64 ty.kind, .slice l.ta l.tn l.tc, .int .i64 re.kind, .slice l.ra l.rn l.rc, .slice l.aa l.an l.ac] 29)).drew := below_next k0 (below_drew _)
      obtain ⟨u0, u1, u2, u3, u4, u5, u6, u7, u8⟩ := Blk.nine (t := ⟨6, nm, ot, n, ty, re, xs⟩) (l := l) B0
      dsimp only at u0 u1 u2 u3 u4 u5 u6 u7 u8
      go_enter Tryz.func51, Tryz.ntmps51
      go_wp2_with fail
      go_region_held3 (fun W => (W.cell? ⟨w.heap.size, 0, none⟩ = some (.int .i64 6) ∧ W.cell? ⟨w.heap.size, 1, none⟩ = some (.string nm) ∧ W.cell? ⟨w.heap.size, 2, none⟩ = some (.string ot) ∧ W.cell? ⟨w.heap.size, 3, none⟩ = some (.int .i64 n) ∧ W.cell? ⟨w.heap.size, 4, none⟩ = some (.int .i64 ty.kind) ∧ W.cell? ⟨w.heap.size, 5, none⟩ = some (.slice l.ta l.tn l.tc) ∧ W.cell? ⟨w.heap.size, 6, none⟩ = some (.int .i64 re.kind) ∧ W.cell? ⟨w.heap.size, 7, none⟩ = some (.slice l.ra l.rn l.rc) ∧ W.cell? ⟨w.heap.size, 8, none⟩ = some (.slice l.aa l.an l.ac)))
        (first | exact ⟨u0, u1, u2, u3, u4, u5, u6, u7, u8⟩ | exact Blk.nine (t := ⟨6, nm, ot, n, ty, re, xs⟩) (l := l) B1)
        (first
          | (go_at_call 77; (with_reducible refine (CA.out _).mono ?_); rintro e w1 ⟨rfl, b1⟩
             have B1 : Blk w1 _ _ _ := Blk.under (w := (w.alloc (.cells #[.int .i64 6, .string nm, .string ot, .int .i64 n, .int .i64 ty.kind, .slice l.ta l.tn l.tc, .int .i64 re.kind, .slice l.ra l.rn l.rc, .slice l.aa l.an l.ac] 29)).drew) B0 b1
             have k1 := below_next kd b1))
      obtain ⟨v0, v1, v2, v3, v4, v5, v6, v7, v8⟩ := Blk.nine (t := ⟨6, nm, ot, n, ty, re, xs⟩) (l := l) B1
      dsimp only at v0 v1 v2 v3 v4 v5 v6 v7 v8
      obtain ⟨r0, r1, r2, r3, r4, r5, r6, r7, r8⟩ := Blk.nine_new (t := ⟨6, nm, ot, n, ty, re, xs⟩) (l := l) B1
      dsimp only at r0 r1 r2 r3 r4 r5 r6 r7 r8
      have km : Below w.heap.size w (w1.alloc (.cells #[.int .i64 6, .string nm, .string ⟨#[]⟩, .int .i64 0, .int .i64 ty.kind, .slice l.ta l.tn l.tc, .int .i64 0, .slice none 0 0, .slice none 0 0] 29)) := below_next k1 (below_new _ _)
      have km2 : Below w.heap.size w (w1.alloc (.cells #[.int .i64 6, .string nm, .string ⟨#[]⟩, .int .i64 0, .int .i64 ty.kind, .slice l.ta l.tn l.tc, .int .i64 0, .slice none 0 0, .slice none 0 0] 29)).drew := below_next km (below_drew _)
      go_wp2_with fail
      go_region
      all_goals go_wp2_with (first
          | (go_at_call 78; (with_reducible refine (CN1.out _ km2).mono ?_); rintro e w2 ⟨rfl, b2⟩
             have k2 := below_next km2 b2
             have B2 : Blk w2 _ _ _ := Blk.under (w := (w1.alloc (.cells #[.int .i64 6, .string nm, .string ⟨#[]⟩, .int .i64 0, .int .i64 ty.kind, .slice l.ta l.tn l.tc, .int .i64 0, .slice none 0 0, .slice none 0 0] 29)).drew) (B1.alloc _) b2
             have M2 : Blk w2 _ _ _ := Blk.under (w := (w1.alloc (.cells #[.int .i64 6, .string nm, .string ⟨#[]⟩, .int .i64 0, .int .i64 ty.kind, .slice l.ta l.tn l.tc, .int .i64 0, .slice none 0 0, .slice none 0 0] 29)).drew) (Blk.new w1 29 #[.int .i64 6, .string nm, .string ⟨#[]⟩, .int .i64 0, .int .i64 ty.kind, .slice l.ta l.tn l.tc, .int .i64 0, .slice none 0 0, .slice none 0 0]) b2
             obtain ⟨p0, p1, p2, p3, p4, p5, p6, p7, p8⟩ := Blk.nine (t := ⟨6, nm, ot, n, ty, re, xs⟩) (l := l) B2
             dsimp only at p0 p1 p2 p3 p4 p5 p6 p7 p8
             obtain ⟨q0, q1, q2, q3, q4, q5, q6, q7, q8⟩ : _ ∧ _ ∧ _ ∧ _ ∧ _ ∧ _ ∧ _ ∧ _ ∧ _ := ⟨M2.cell 0, M2.cell 1, M2.cell 2, M2.cell 3, M2.cell 4, M2.cell 5, M2.cell 6, M2.cell 7, M2.cell 8⟩
             simp at q0 q1 q2 q3 q4 q5 q6 q7 q8)
          | (go_at_call 79; (with_reducible refine (CE1.out _ k2).mono ?_); rintro e w3 ⟨rfl, b3⟩
             have k3 := below_next k2 b3
             have B3 := B2.under b3
             have M3 := M2.under b3
             obtain ⟨p0', p1', p2', p3', p4', p5', p6', p7', p8'⟩ := Blk.nine (t := ⟨6, nm, ot, n, ty, re, xs⟩) (l := l) B3
             dsimp only at p0' p1' p2' p3' p4' p5' p6' p7' p8'
             obtain ⟨q0', q1', q2', q3', q4', q5', q6', q7', q8'⟩ : _ ∧ _ ∧ _ ∧ _ ∧ _ ∧ _ ∧ _ ∧ _ ∧ _ := ⟨M3.cell 0, M3.cell 1, M3.cell 2, M3.cell 3, M3.cell 4, M3.cell 5, M3.cell 6, M3.cell 7, M3.cell 8⟩
             simp at q0' q1' q2' q3' q4' q5' q6' q7' q8')
          | (go_at_call 79; (with_reducible refine (CE2.out _ k3).mono ?_); rintro e w4 ⟨rfl, b4⟩
             have k4 := below_next k3 b4))
      all_goals go_ret
      all_goals exact ⟨ret_bool hf.out.symm, k2⟩
    | true =>
      have CN1 := CN
      rw [hn] at hf CN1
      rw [Bool.true_and] at hf
      replace hf := hide hf
      replace CN1 := hide CN1
      replace hn := hide hn
      clear CN
      have B0 := Blk.new w 29 #[.int .i64 6, .string nm, .string ot, .int .i64 n, .int .i64 ty.kind, .slice l.ta l.tn l.tc, .int .i64 re.kind, .slice l.ra l.rn l.rc, .slice l.aa l.an l.ac]
      have kd : Below w.heap.size w (w.alloc (.cells #[.int .i64 6, .string nm, .string ot, .int .i64 n, .int .i64 ty.kind, .slice l.ta l.tn l.tc, .int .i64 re.kind, .slice l.ra l.rn l.rc, .slice l.aa l.an l.ac] 29)).drew := below_next k0 (below_drew _)
      obtain ⟨u0, u1, u2, u3, u4, u5, u6, u7, u8⟩ := Blk.nine (t := ⟨6, nm, ot, n, ty, re, xs⟩) (l := l) B0
      dsimp only at u0 u1 u2 u3 u4 u5 u6 u7 u8
      go_enter Tryz.func51, Tryz.ntmps51
      go_wp2_with fail
      go_region_held3 (fun W => (W.cell? ⟨w.heap.size, 0, none⟩ = some (.int .i64 6) ∧ W.cell? ⟨w.heap.size, 1, none⟩ = some (.string nm) ∧ W.cell? ⟨w.heap.size, 2, none⟩ = some (.string ot) ∧ W.cell? ⟨w.heap.size, 3, none⟩ = some (.int .i64 n) ∧ W.cell? ⟨w.heap.size, 4, none⟩ = some (.int .i64 ty.kind) ∧ W.cell? ⟨w.heap.size, 5, none⟩ = some (.slice l.ta l.tn l.tc) ∧ W.cell? ⟨w.heap.size, 6, none⟩ = some (.int .i64 re.kind) ∧ W.cell? ⟨w.heap.size, 7, none⟩ = some (.slice l.ra l.rn l.rc) ∧ W.cell? ⟨w.heap.size, 8, none⟩ = some (.slice l.aa l.an l.ac)))
        (first | exact ⟨u0, u1, u2, u3, u4, u5, u6, u7, u8⟩ | exact Blk.nine (t := ⟨6, nm, ot, n, ty, re, xs⟩) (l := l) B1)
        (first
          | (go_at_call 77; (with_reducible refine (CA.out _).mono ?_); rintro e w1 ⟨rfl, b1⟩
             have B1 : Blk w1 _ _ _ := Blk.under (w := (w.alloc (.cells #[.int .i64 6, .string nm, .string ot, .int .i64 n, .int .i64 ty.kind, .slice l.ta l.tn l.tc, .int .i64 re.kind, .slice l.ra l.rn l.rc, .slice l.aa l.an l.ac] 29)).drew) B0 b1
             have k1 := below_next kd b1))
      obtain ⟨v0, v1, v2, v3, v4, v5, v6, v7, v8⟩ := Blk.nine (t := ⟨6, nm, ot, n, ty, re, xs⟩) (l := l) B1
      dsimp only at v0 v1 v2 v3 v4 v5 v6 v7 v8
      obtain ⟨r0, r1, r2, r3, r4, r5, r6, r7, r8⟩ := Blk.nine_new (t := ⟨6, nm, ot, n, ty, re, xs⟩) (l := l) B1
      dsimp only at r0 r1 r2 r3 r4 r5 r6 r7 r8
      have km : Below w.heap.size w (w1.alloc (.cells #[.int .i64 6, .string nm, .string ⟨#[]⟩, .int .i64 0, .int .i64 ty.kind, .slice l.ta l.tn l.tc, .int .i64 0, .slice none 0 0, .slice none 0 0] 29)) := below_next k1 (below_new _ _)
      have km2 : Below w.heap.size w (w1.alloc (.cells #[.int .i64 6, .string nm, .string ⟨#[]⟩, .int .i64 0, .int .i64 ty.kind, .slice l.ta l.tn l.tc, .int .i64 0, .slice none 0 0, .slice none 0 0] 29)).drew := below_next km (below_drew _)
      go_wp2_with fail
      go_region
      all_goals go_wp2_with (first
          | (go_at_call 78; (with_reducible refine (CN1.out _ km2).mono ?_); rintro e w2 ⟨rfl, b2⟩
             have k2 := below_next km2 b2
             have B2 : Blk w2 _ _ _ := Blk.under (w := (w1.alloc (.cells #[.int .i64 6, .string nm, .string ⟨#[]⟩, .int .i64 0, .int .i64 ty.kind, .slice l.ta l.tn l.tc, .int .i64 0, .slice none 0 0, .slice none 0 0] 29)).drew) (B1.alloc _) b2
             have M2 : Blk w2 _ _ _ := Blk.under (w := (w1.alloc (.cells #[.int .i64 6, .string nm, .string ⟨#[]⟩, .int .i64 0, .int .i64 ty.kind, .slice l.ta l.tn l.tc, .int .i64 0, .slice none 0 0, .slice none 0 0] 29)).drew) (Blk.new w1 29 #[.int .i64 6, .string nm, .string ⟨#[]⟩, .int .i64 0, .int .i64 ty.kind, .slice l.ta l.tn l.tc, .int .i64 0, .slice none 0 0, .slice none 0 0]) b2
             obtain ⟨p0, p1, p2, p3, p4, p5, p6, p7, p8⟩ := Blk.nine (t := ⟨6, nm, ot, n, ty, re, xs⟩) (l := l) B2
             dsimp only at p0 p1 p2 p3 p4 p5 p6 p7 p8
             obtain ⟨q0, q1, q2, q3, q4, q5, q6, q7, q8⟩ : _ ∧ _ ∧ _ ∧ _ ∧ _ ∧ _ ∧ _ ∧ _ ∧ _ := ⟨M2.cell 0, M2.cell 1, M2.cell 2, M2.cell 3, M2.cell 4, M2.cell 5, M2.cell 6, M2.cell 7, M2.cell 8⟩
             simp at q0 q1 q2 q3 q4 q5 q6 q7 q8)
          | (go_at_call 79; (with_reducible refine (CE1.out _ k2).mono ?_); rintro e w3 ⟨rfl, b3⟩
             have k3 := below_next k2 b3
             have B3 := B2.under b3
             have M3 := M2.under b3
             obtain ⟨p0', p1', p2', p3', p4', p5', p6', p7', p8'⟩ := Blk.nine (t := ⟨6, nm, ot, n, ty, re, xs⟩) (l := l) B3
             dsimp only at p0' p1' p2' p3' p4' p5' p6' p7' p8'
             obtain ⟨q0', q1', q2', q3', q4', q5', q6', q7', q8'⟩ : _ ∧ _ ∧ _ ∧ _ ∧ _ ∧ _ ∧ _ ∧ _ ∧ _ := ⟨M3.cell 0, M3.cell 1, M3.cell 2, M3.cell 3, M3.cell 4, M3.cell 5, M3.cell 6, M3.cell 7, M3.cell 8⟩
             simp at q0' q1' q2' q3' q4' q5' q6' q7' q8')
          | (go_at_call 79; (with_reducible refine (CE2.out _ k3).mono ?_); rintro e w4 ⟨rfl, b4⟩
             have k4 := below_next k3 b4))
      all_goals go_ret
      all_goals first
        | exact ⟨ret_bool (by rw [hf.out]; simp_all), k4⟩
        | exact ⟨ret_bool (by rw [hf.out]; simp_all), k3⟩
        | exact ⟨ret_bool (by rw [hf.out]; simp_all), k2⟩
        | trace_state

set_option maxHeartbeats 6400000 in
theorem isForm_9 (t : Tm) (l : Lt) (w : World) (h : Md w t l) (hw : t.wt ≤ 1048576) (hk : t.kind = 9) :
    Calls Tryz.prog 51 #[.agg #[.int .i64 t.kind, .string t.name, .string t.other, .int .i64 t.n, .int .i64 t.type.kind, .slice l.ta l.tn l.tc, .int .i64 t.res.kind, .slice l.ra l.rn l.rc, .slice l.aa l.an l.ac]] w fun e w' => e = .returned (.bool (formI t)) ∧ Below w.heap.size w w' := by
  obtain ⟨-, ht, hre, hm⟩ := h.shape
  have hx : (l.an : Int) = (t.args.length : Int) := by rw [hm.1]
  have hf := formI_eq t
  rw [← hx] at hf
  have CA := hide fun W => arity_any t l W
  have CN := fun W (hW : Below w.heap.size w W) => isNamed_any t l W (h.below hW) hw
  have RT0 : ∀ W, Below w.heap.size w W → Rd W t.type (.int .i64 t.type.kind) (.slice l.ta l.tn l.tc) := fun W hW => ht.below hW
  have RR0 : ∀ W, Below w.heap.size w W → Rd W t.res (.int .i64 t.res.kind) (.slice l.ra l.rn l.rc) := fun W hW => hre.below hW
  have CE1 := hide fun W (hW : Below w.heap.size w W) => implEqualType_any t.type t.type _ _ _ _ W (RT0 W hW) (RT0 W hW)
  have CE2 := hide fun W (hW : Below w.heap.size w W) => implEqualType_any t.res t.res _ _ _ _ W (RR0 W hW) (RR0 W hW)
  clear ht hre hm hw hx RT0 RR0 h
  have k0 : Below w.heap.size w (w.alloc (.cells #[.int .i64 t.kind, .string t.name, .string t.other, .int .i64 t.n, .int .i64 t.type.kind, .slice l.ta l.tn l.tc, .int .i64 t.res.kind, .slice l.ra l.rn l.rc, .slice l.aa l.an l.ac] 29)) := below_new _ _
  obtain ⟨k, nm, ot, n, ty, re, xs⟩ := t
  dsimp only at *
  subst hk
  have WN : wantName ⟨9, nm, ot, n, ty, re, xs⟩ = nm := by simp [wantName]
  have WO : wantOther ⟨9, nm, ot, n, ty, re, xs⟩ = ot := by simp [wantOther]
  have WI : wantN ⟨9, nm, ot, n, ty, re, xs⟩ = 0 := by simp [wantN]
  have WT : wantType ⟨9, nm, ot, n, ty, re, xs⟩ = ty := by simp [wantType]
  have WR : wantRes ⟨9, nm, ot, n, ty, re, xs⟩ = re := by simp [wantRes]
  rw [WN, WO, WI, WT, WR] at hf
  clear WN WO WI WT WR
  cases hz : ((l.an : Int) == arityI 9 nm) with
  | false =>
    rw [hz] at hf
    rw [Bool.false_and] at hf
    replace hf := hide hf
    have hz1 : ((l.an : Int) != arityI 9 nm) = true := by simp [bne, hz]
    replace hz := hide hz
    have B0 := Blk.new w 29 #[.int .i64 9, .string nm, .string ot, .int .i64 n, .int .i64 ty.kind, .slice l.ta l.tn l.tc, .int .i64 re.kind, .slice l.ra l.rn l.rc, .slice l.aa l.an l.ac]
    have kd : Below w.heap.size w (w.alloc (.cells #[.int .i64 9, .string nm, .string ot, .int .i64 n, .int .i64 ty.kind, .slice l.ta l.tn l.tc, .int .i64 re.kind, .slice l.ra l.rn l.rc, .slice l.aa l.an l.ac] 29)).drew := below_next k0 (below_drew _)
    obtain ⟨u0, u1, u2, u3, u4, u5, u6, u7, u8⟩ := Blk.nine (t := ⟨9, nm, ot, n, ty, re, xs⟩) (l := l) B0
    dsimp only at u0 u1 u2 u3 u4 u5 u6 u7 u8
    go_enter Tryz.func51, Tryz.ntmps51
    go_wp2_with fail
    go_region_held3 (fun W => (W.cell? ⟨w.heap.size, 0, none⟩ = some (.int .i64 9) ∧ W.cell? ⟨w.heap.size, 1, none⟩ = some (.string nm) ∧ W.cell? ⟨w.heap.size, 2, none⟩ = some (.string ot) ∧ W.cell? ⟨w.heap.size, 3, none⟩ = some (.int .i64 n) ∧ W.cell? ⟨w.heap.size, 4, none⟩ = some (.int .i64 ty.kind) ∧ W.cell? ⟨w.heap.size, 5, none⟩ = some (.slice l.ta l.tn l.tc) ∧ W.cell? ⟨w.heap.size, 6, none⟩ = some (.int .i64 re.kind) ∧ W.cell? ⟨w.heap.size, 7, none⟩ = some (.slice l.ra l.rn l.rc) ∧ W.cell? ⟨w.heap.size, 8, none⟩ = some (.slice l.aa l.an l.ac)))
      (first | exact ⟨u0, u1, u2, u3, u4, u5, u6, u7, u8⟩ | exact Blk.nine (t := ⟨9, nm, ot, n, ty, re, xs⟩) (l := l) B1)
      (first
        | (go_at_call 77; (with_reducible refine (CA.out _).mono ?_); rintro e w1 ⟨rfl, b1⟩
           have B1 : Blk w1 _ _ _ := Blk.under (w := (w.alloc (.cells #[.int .i64 9, .string nm, .string ot, .int .i64 n, .int .i64 ty.kind, .slice l.ta l.tn l.tc, .int .i64 re.kind, .slice l.ra l.rn l.rc, .slice l.aa l.an l.ac] 29)).drew) B0 b1
           have k1 := below_next kd b1))
    go_wp2_with fail
    go_ret
    exact ⟨ret_bool hf.out.symm, k1⟩
  | true =>
    rw [hz] at hf
    rw [Bool.true_and] at hf
    have hz1 : ((l.an : Int) != arityI 9 nm) = false := by simp [bne, hz]
    replace hz := hide hz
    cases hn : namedI ⟨9, nm, ot, n, ty, re, xs⟩ with
    | false =>
      have CN1 := CN
      rw [hn] at hf CN1
      rw [Bool.false_and] at hf
      replace hf := hide hf
      replace CN1 := hide CN1
      replace hn := hide hn
      clear CN
      have B0 := Blk.new w 29 #[.int .i64 9, .string nm, .string ot, .int .i64 n, .int .i64 ty.kind, .slice l.ta l.tn l.tc, .int .i64 re.kind, .slice l.ra l.rn l.rc, .slice l.aa l.an l.ac]
      have kd : Below w.heap.size w (w.alloc (.cells #[.int .i64 9, .string nm, .string ot, .int .i64 n, .int .i64 ty.kind, .slice l.ta l.tn l.tc, .int .i64 re.kind, .slice l.ra l.rn l.rc, .slice l.aa l.an l.ac] 29)).drew := below_next k0 (below_drew _)
      obtain ⟨u0, u1, u2, u3, u4, u5, u6, u7, u8⟩ := Blk.nine (t := ⟨9, nm, ot, n, ty, re, xs⟩) (l := l) B0
      dsimp only at u0 u1 u2 u3 u4 u5 u6 u7 u8
      go_enter Tryz.func51, Tryz.ntmps51
      go_wp2_with fail
      go_region_held3 (fun W => (W.cell? ⟨w.heap.size, 0, none⟩ = some (.int .i64 9) ∧ W.cell? ⟨w.heap.size, 1, none⟩ = some (.string nm) ∧ W.cell? ⟨w.heap.size, 2, none⟩ = some (.string ot) ∧ W.cell? ⟨w.heap.size, 3, none⟩ = some (.int .i64 n) ∧ W.cell? ⟨w.heap.size, 4, none⟩ = some (.int .i64 ty.kind) ∧ W.cell? ⟨w.heap.size, 5, none⟩ = some (.slice l.ta l.tn l.tc) ∧ W.cell? ⟨w.heap.size, 6, none⟩ = some (.int .i64 re.kind) ∧ W.cell? ⟨w.heap.size, 7, none⟩ = some (.slice l.ra l.rn l.rc) ∧ W.cell? ⟨w.heap.size, 8, none⟩ = some (.slice l.aa l.an l.ac)))
        (first | exact ⟨u0, u1, u2, u3, u4, u5, u6, u7, u8⟩ | exact Blk.nine (t := ⟨9, nm, ot, n, ty, re, xs⟩) (l := l) B1)
        (first
          | (go_at_call 77; (with_reducible refine (CA.out _).mono ?_); rintro e w1 ⟨rfl, b1⟩
             have B1 : Blk w1 _ _ _ := Blk.under (w := (w.alloc (.cells #[.int .i64 9, .string nm, .string ot, .int .i64 n, .int .i64 ty.kind, .slice l.ta l.tn l.tc, .int .i64 re.kind, .slice l.ra l.rn l.rc, .slice l.aa l.an l.ac] 29)).drew) B0 b1
             have k1 := below_next kd b1))
      obtain ⟨v0, v1, v2, v3, v4, v5, v6, v7, v8⟩ := Blk.nine (t := ⟨9, nm, ot, n, ty, re, xs⟩) (l := l) B1
      dsimp only at v0 v1 v2 v3 v4 v5 v6 v7 v8
      obtain ⟨r0, r1, r2, r3, r4, r5, r6, r7, r8⟩ := Blk.nine_new (t := ⟨9, nm, ot, n, ty, re, xs⟩) (l := l) B1
      dsimp only at r0 r1 r2 r3 r4 r5 r6 r7 r8
      have km : Below w.heap.size w (w1.alloc (.cells #[.int .i64 9, .string nm, .string ot, .int .i64 0, .int .i64 ty.kind, .slice l.ta l.tn l.tc, .int .i64 re.kind, .slice l.ra l.rn l.rc, .slice none 0 0] 29)) := below_next k1 (below_new _ _)
      have km2 : Below w.heap.size w (w1.alloc (.cells #[.int .i64 9, .string nm, .string ot, .int .i64 0, .int .i64 ty.kind, .slice l.ta l.tn l.tc, .int .i64 re.kind, .slice l.ra l.rn l.rc, .slice none 0 0] 29)).drew := below_next km (below_drew _)
      go_wp2_with fail
      go_region
      all_goals go_wp2_with (first
          | (go_at_call 78; (with_reducible refine (CN1.out _ km2).mono ?_); rintro e w2 ⟨rfl, b2⟩
             have k2 := below_next km2 b2
             have B2 : Blk w2 _ _ _ := Blk.under (w := (w1.alloc (.cells #[.int .i64 9, .string nm, .string ot, .int .i64 0, .int .i64 ty.kind, .slice l.ta l.tn l.tc, .int .i64 re.kind, .slice l.ra l.rn l.rc, .slice none 0 0] 29)).drew) (B1.alloc _) b2
             have M2 : Blk w2 _ _ _ := Blk.under (w := (w1.alloc (.cells #[.int .i64 9, .string nm, .string ot, .int .i64 0, .int .i64 ty.kind, .slice l.ta l.tn l.tc, .int .i64 re.kind, .slice l.ra l.rn l.rc, .slice none 0 0] 29)).drew) (Blk.new w1 29 #[.int .i64 9, .string nm, .string ot, .int .i64 0, .int .i64 ty.kind, .slice l.ta l.tn l.tc, .int .i64 re.kind, .slice l.ra l.rn l.rc, .slice none 0 0]) b2
             obtain ⟨p0, p1, p2, p3, p4, p5, p6, p7, p8⟩ := Blk.nine (t := ⟨9, nm, ot, n, ty, re, xs⟩) (l := l) B2
             dsimp only at p0 p1 p2 p3 p4 p5 p6 p7 p8
             obtain ⟨q0, q1, q2, q3, q4, q5, q6, q7, q8⟩ : _ ∧ _ ∧ _ ∧ _ ∧ _ ∧ _ ∧ _ ∧ _ ∧ _ := ⟨M2.cell 0, M2.cell 1, M2.cell 2, M2.cell 3, M2.cell 4, M2.cell 5, M2.cell 6, M2.cell 7, M2.cell 8⟩
             simp at q0 q1 q2 q3 q4 q5 q6 q7 q8)
          | (go_at_call 79; (with_reducible refine (CE1.out _ k2).mono ?_); rintro e w3 ⟨rfl, b3⟩
             have k3 := below_next k2 b3
             have B3 := B2.under b3
             have M3 := M2.under b3
             obtain ⟨p0', p1', p2', p3', p4', p5', p6', p7', p8'⟩ := Blk.nine (t := ⟨9, nm, ot, n, ty, re, xs⟩) (l := l) B3
             dsimp only at p0' p1' p2' p3' p4' p5' p6' p7' p8'
             obtain ⟨q0', q1', q2', q3', q4', q5', q6', q7', q8'⟩ : _ ∧ _ ∧ _ ∧ _ ∧ _ ∧ _ ∧ _ ∧ _ ∧ _ := ⟨M3.cell 0, M3.cell 1, M3.cell 2, M3.cell 3, M3.cell 4, M3.cell 5, M3.cell 6, M3.cell 7, M3.cell 8⟩
             simp at q0' q1' q2' q3' q4' q5' q6' q7' q8')
          | (go_at_call 79; (with_reducible refine (CE2.out _ k3).mono ?_); rintro e w4 ⟨rfl, b4⟩
             have k4 := below_next k3 b4))
      all_goals go_ret
      all_goals exact ⟨ret_bool hf.out.symm, k2⟩
    | true =>
      have CN1 := CN
      rw [hn] at hf CN1
      rw [Bool.true_and] at hf
      replace hf := hide hf
      replace CN1 := hide CN1
      replace hn := hide hn
      clear CN
      have B0 := Blk.new w 29 #[.int .i64 9, .string nm, .string ot, .int .i64 n, .int .i64 ty.kind, .slice l.ta l.tn l.tc, .int .i64 re.kind, .slice l.ra l.rn l.rc, .slice l.aa l.an l.ac]
      have kd : Below w.heap.size w (w.alloc (.cells #[.int .i64 9, .string nm, .string ot, .int .i64 n, .int .i64 ty.kind, .slice l.ta l.tn l.tc, .int .i64 re.kind, .slice l.ra l.rn l.rc, .slice l.aa l.an l.ac] 29)).drew := below_next k0 (below_drew _)
      obtain ⟨u0, u1, u2, u3, u4, u5, u6, u7, u8⟩ := Blk.nine (t := ⟨9, nm, ot, n, ty, re, xs⟩) (l := l) B0
      dsimp only at u0 u1 u2 u3 u4 u5 u6 u7 u8
      go_enter Tryz.func51, Tryz.ntmps51
      go_wp2_with fail
      go_region_held3 (fun W => (W.cell? ⟨w.heap.size, 0, none⟩ = some (.int .i64 9) ∧ W.cell? ⟨w.heap.size, 1, none⟩ = some (.string nm) ∧ W.cell? ⟨w.heap.size, 2, none⟩ = some (.string ot) ∧ W.cell? ⟨w.heap.size, 3, none⟩ = some (.int .i64 n) ∧ W.cell? ⟨w.heap.size, 4, none⟩ = some (.int .i64 ty.kind) ∧ W.cell? ⟨w.heap.size, 5, none⟩ = some (.slice l.ta l.tn l.tc) ∧ W.cell? ⟨w.heap.size, 6, none⟩ = some (.int .i64 re.kind) ∧ W.cell? ⟨w.heap.size, 7, none⟩ = some (.slice l.ra l.rn l.rc) ∧ W.cell? ⟨w.heap.size, 8, none⟩ = some (.slice l.aa l.an l.ac)))
        (first | exact ⟨u0, u1, u2, u3, u4, u5, u6, u7, u8⟩ | exact Blk.nine (t := ⟨9, nm, ot, n, ty, re, xs⟩) (l := l) B1)
        (first
          | (go_at_call 77; (with_reducible refine (CA.out _).mono ?_); rintro e w1 ⟨rfl, b1⟩
             have B1 : Blk w1 _ _ _ := Blk.under (w := (w.alloc (.cells #[.int .i64 9, .string nm, .string ot, .int .i64 n, .int .i64 ty.kind, .slice l.ta l.tn l.tc, .int .i64 re.kind, .slice l.ra l.rn l.rc, .slice l.aa l.an l.ac] 29)).drew) B0 b1
             have k1 := below_next kd b1))
      obtain ⟨v0, v1, v2, v3, v4, v5, v6, v7, v8⟩ := Blk.nine (t := ⟨9, nm, ot, n, ty, re, xs⟩) (l := l) B1
      dsimp only at v0 v1 v2 v3 v4 v5 v6 v7 v8
      obtain ⟨r0, r1, r2, r3, r4, r5, r6, r7, r8⟩ := Blk.nine_new (t := ⟨9, nm, ot, n, ty, re, xs⟩) (l := l) B1
      dsimp only at r0 r1 r2 r3 r4 r5 r6 r7 r8
      have km : Below w.heap.size w (w1.alloc (.cells #[.int .i64 9, .string nm, .string ot, .int .i64 0, .int .i64 ty.kind, .slice l.ta l.tn l.tc, .int .i64 re.kind, .slice l.ra l.rn l.rc, .slice none 0 0] 29)) := below_next k1 (below_new _ _)
      have km2 : Below w.heap.size w (w1.alloc (.cells #[.int .i64 9, .string nm, .string ot, .int .i64 0, .int .i64 ty.kind, .slice l.ta l.tn l.tc, .int .i64 re.kind, .slice l.ra l.rn l.rc, .slice none 0 0] 29)).drew := below_next km (below_drew _)
      go_wp2_with fail
      go_region
      all_goals go_wp2_with (first
          | (go_at_call 78; (with_reducible refine (CN1.out _ km2).mono ?_); rintro e w2 ⟨rfl, b2⟩
             have k2 := below_next km2 b2
             have B2 : Blk w2 _ _ _ := Blk.under (w := (w1.alloc (.cells #[.int .i64 9, .string nm, .string ot, .int .i64 0, .int .i64 ty.kind, .slice l.ta l.tn l.tc, .int .i64 re.kind, .slice l.ra l.rn l.rc, .slice none 0 0] 29)).drew) (B1.alloc _) b2
             have M2 : Blk w2 _ _ _ := Blk.under (w := (w1.alloc (.cells #[.int .i64 9, .string nm, .string ot, .int .i64 0, .int .i64 ty.kind, .slice l.ta l.tn l.tc, .int .i64 re.kind, .slice l.ra l.rn l.rc, .slice none 0 0] 29)).drew) (Blk.new w1 29 #[.int .i64 9, .string nm, .string ot, .int .i64 0, .int .i64 ty.kind, .slice l.ta l.tn l.tc, .int .i64 re.kind, .slice l.ra l.rn l.rc, .slice none 0 0]) b2
             obtain ⟨p0, p1, p2, p3, p4, p5, p6, p7, p8⟩ := Blk.nine (t := ⟨9, nm, ot, n, ty, re, xs⟩) (l := l) B2
             dsimp only at p0 p1 p2 p3 p4 p5 p6 p7 p8
             obtain ⟨q0, q1, q2, q3, q4, q5, q6, q7, q8⟩ : _ ∧ _ ∧ _ ∧ _ ∧ _ ∧ _ ∧ _ ∧ _ ∧ _ := ⟨M2.cell 0, M2.cell 1, M2.cell 2, M2.cell 3, M2.cell 4, M2.cell 5, M2.cell 6, M2.cell 7, M2.cell 8⟩
             simp at q0 q1 q2 q3 q4 q5 q6 q7 q8)
          | (go_at_call 79; (with_reducible refine (CE1.out _ k2).mono ?_); rintro e w3 ⟨rfl, b3⟩
             have k3 := below_next k2 b3
             have B3 := B2.under b3
             have M3 := M2.under b3
             obtain ⟨p0', p1', p2', p3', p4', p5', p6', p7', p8'⟩ := Blk.nine (t := ⟨9, nm, ot, n, ty, re, xs⟩) (l := l) B3
             dsimp only at p0' p1' p2' p3' p4' p5' p6' p7' p8'
             obtain ⟨q0', q1', q2', q3', q4', q5', q6', q7', q8'⟩ : _ ∧ _ ∧ _ ∧ _ ∧ _ ∧ _ ∧ _ ∧ _ ∧ _ := ⟨M3.cell 0, M3.cell 1, M3.cell 2, M3.cell 3, M3.cell 4, M3.cell 5, M3.cell 6, M3.cell 7, M3.cell 8⟩
             simp at q0' q1' q2' q3' q4' q5' q6' q7' q8')
          | (go_at_call 79; (with_reducible refine (CE2.out _ k3).mono ?_); rintro e w4 ⟨rfl, b4⟩
             have k4 := below_next k3 b4))
      all_goals go_ret
      all_goals first
        | exact ⟨ret_bool (by rw [hf.out]; simp_all), k4⟩
        | exact ⟨ret_bool (by rw [hf.out]; simp_all), k3⟩
        | exact ⟨ret_bool (by rw [hf.out]; simp_all), k2⟩
        | trace_state
end Go.Proofs.YtklifieahcoljaaGreat

namespace Go.Proofs.YtklifieahcoljaaGreat
open Go.RowKit
set_option maxRecDepth 100000
set_option linter.unusedVariables false
set_option linter.unusedSimpArgs false

set_option maxHeartbeats 6400000 in
theorem isForm_k (t : Tm) (l : Lt) (w : World) (h : Md w t l) (hw : t.wt ≤ 1048576) (hk : t.kind ≠ 1 ∧ t.kind ≠ 2 ∧ t.kind ≠ 3 ∧ t.kind ≠ 4 ∧ t.kind ≠ 6 ∧ t.kind ≠ 8 ∧ t.kind ≠ 9) :
    Calls Tryz.prog 51 #[.agg #[.int .i64 t.kind, .string t.name, .string t.other, .int .i64 t.n, .int .i64 t.type.kind, .slice l.ta l.tn l.tc, .int .i64 t.res.kind, .slice l.ra l.rn l.rc, .slice l.aa l.an l.ac]] w fun e w' => e = .returned (.bool (formI t)) ∧ Below w.heap.size w w' := by
  obtain ⟨-, ht, hre, hm⟩ := h.shape
  have hx : (l.an : Int) = (t.args.length : Int) := by rw [hm.1]
  have hf := formI_eq t
  rw [← hx] at hf
  have CA := hide fun W => arity_any t l W
  have CN := fun W (hW : Below w.heap.size w W) => isNamed_any t l W (h.below hW) hw
  have RT0 : ∀ W, Below w.heap.size w W → Rd W t.type (.int .i64 t.type.kind) (.slice l.ta l.tn l.tc) := fun W hW => ht.below hW
  have RR0 : ∀ W, Below w.heap.size w W → Rd W t.res (.int .i64 t.res.kind) (.slice l.ra l.rn l.rc) := fun W hW => hre.below hW
  have CE1 := hide fun W (hW : Below w.heap.size w W) => implEqualType_any t.type ⟨0, []⟩ _ _ _ _ W (RT0 W hW) (Rd_zero W)
  have CE2 := hide fun W (hW : Below w.heap.size w W) => implEqualType_any t.res ⟨0, []⟩ _ _ _ _ W (RR0 W hW) (Rd_zero W)
  clear ht hre hm hw hx RT0 RR0 h
  have k0 : Below w.heap.size w (w.alloc (.cells #[.int .i64 t.kind, .string t.name, .string t.other, .int .i64 t.n, .int .i64 t.type.kind, .slice l.ta l.tn l.tc, .int .i64 t.res.kind, .slice l.ra l.rn l.rc, .slice l.aa l.an l.ac] 29)) := below_new _ _
  obtain ⟨k, nm, ot, n, ty, re, xs⟩ := t
  dsimp only at *
  obtain ⟨e1, e2, e3, e4, e6, e8, e9⟩ := hk
  have g1 : (k == 1) = false := by simp [e1]
  have g2 : (k == 2) = false := by simp [e2]
  have g3 : (k == 3) = false := by simp [e3]
  have g4 : (k == 4) = false := by simp [e4]
  have g6 : (k == 6) = false := by simp [e6]
  have g8 : (k == 8) = false := by simp [e8]
  have g9 : (k == 9) = false := by simp [e9]
  clear e1 e2 e3 e4 e6 e8 e9
  have WN : wantName ⟨k, nm, ot, n, ty, re, xs⟩ = ⟨#[]⟩ := by simp [wantName, g1, g4, g6, g8, g9]
  have WO : wantOther ⟨k, nm, ot, n, ty, re, xs⟩ = ⟨#[]⟩ := by simp [wantOther, g9]
  have WI : wantN ⟨k, nm, ot, n, ty, re, xs⟩ = 0 := by simp [wantN, g2, g3]
  have WT : wantType ⟨k, nm, ot, n, ty, re, xs⟩ = ⟨0, []⟩ := by simp [wantType, g6, g9]
  have WR : wantRes ⟨k, nm, ot, n, ty, re, xs⟩ = ⟨0, []⟩ := by simp [wantRes, g9]
  rw [WN, WO, WI, WT, WR] at hf
  clear WN WO WI WT WR
  cases hz : ((l.an : Int) == arityI k nm) with
  | false =>
    rw [hz] at hf
    rw [Bool.false_and] at hf
    replace hf := hide hf
    have hz1 : ((l.an : Int) != arityI k nm) = true := by simp [bne, hz]
    replace hz := hide hz
    have B0 := Blk.new w 29 #[.int .i64 k, .string nm, .string ot, .int .i64 n, .int .i64 ty.kind, .slice l.ta l.tn l.tc, .int .i64 re.kind, .slice l.ra l.rn l.rc, .slice l.aa l.an l.ac]
    have kd : Below w.heap.size w (w.alloc (.cells #[.int .i64 k, .string nm, .string ot, .int .i64 n, .int .i64 ty.kind, .slice l.ta l.tn l.tc, .int .i64 re.kind, .slice l.ra l.rn l.rc, .slice l.aa l.an l.ac] 29)).drew := below_next k0 (below_drew _)
    obtain ⟨u0, u1, u2, u3, u4, u5, u6, u7, u8⟩ := Blk.nine (t := ⟨k, nm, ot, n, ty, re, xs⟩) (l := l) B0
    dsimp only at u0 u1 u2 u3 u4 u5 u6 u7 u8
    go_enter Tryz.func51, Tryz.ntmps51
    go_wp2_with fail
    go_region_held3 (fun W => (W.cell? ⟨w.heap.size, 0, none⟩ = some (.int .i64 k) ∧ W.cell? ⟨w.heap.size, 1, none⟩ = some (.string nm) ∧ W.cell? ⟨w.heap.size, 2, none⟩ = some (.string ot) ∧ W.cell? ⟨w.heap.size, 3, none⟩ = some (.int .i64 n) ∧ W.cell? ⟨w.heap.size, 4, none⟩ = some (.int .i64 ty.kind) ∧ W.cell? ⟨w.heap.size, 5, none⟩ = some (.slice l.ta l.tn l.tc) ∧ W.cell? ⟨w.heap.size, 6, none⟩ = some (.int .i64 re.kind) ∧ W.cell? ⟨w.heap.size, 7, none⟩ = some (.slice l.ra l.rn l.rc) ∧ W.cell? ⟨w.heap.size, 8, none⟩ = some (.slice l.aa l.an l.ac)))
      (first | exact ⟨u0, u1, u2, u3, u4, u5, u6, u7, u8⟩ | exact Blk.nine (t := ⟨k, nm, ot, n, ty, re, xs⟩) (l := l) B1)
      (first
        | (go_at_call 77; (with_reducible refine (CA.out _).mono ?_); rintro e w1 ⟨rfl, b1⟩
           have B1 : Blk w1 _ _ _ := Blk.under (w := (w.alloc (.cells #[.int .i64 k, .string nm, .string ot, .int .i64 n, .int .i64 ty.kind, .slice l.ta l.tn l.tc, .int .i64 re.kind, .slice l.ra l.rn l.rc, .slice l.aa l.an l.ac] 29)).drew) B0 b1
           have k1 := below_next kd b1))
    go_wp2_with fail
    go_ret
    exact ⟨ret_bool hf.out.symm, k1⟩
  | true =>
    rw [hz] at hf
    rw [Bool.true_and] at hf
    have hz1 : ((l.an : Int) != arityI k nm) = false := by simp [bne, hz]
    replace hz := hide hz
    cases hn : namedI ⟨k, nm, ot, n, ty, re, xs⟩ with
    | false =>
      have CN1 := CN
      rw [hn] at hf CN1
      rw [Bool.false_and] at hf
      replace hf := hide hf
      replace CN1 := hide CN1
      replace hn := hide hn
      clear CN
      have B0 := Blk.new w 29 #[.int .i64 k, .string nm, .string ot, .int .i64 n, .int .i64 ty.kind, .slice l.ta l.tn l.tc, .int .i64 re.kind, .slice l.ra l.rn l.rc, .slice l.aa l.an l.ac]
      have kd : Below w.heap.size w (w.alloc (.cells #[.int .i64 k, .string nm, .string ot, .int .i64 n, .int .i64 ty.kind, .slice l.ta l.tn l.tc, .int .i64 re.kind, .slice l.ra l.rn l.rc, .slice l.aa l.an l.ac] 29)).drew := below_next k0 (below_drew _)
      obtain ⟨u0, u1, u2, u3, u4, u5, u6, u7, u8⟩ := Blk.nine (t := ⟨k, nm, ot, n, ty, re, xs⟩) (l := l) B0
      dsimp only at u0 u1 u2 u3 u4 u5 u6 u7 u8
      go_enter Tryz.func51, Tryz.ntmps51
      go_wp2_with fail
      go_region_held3 (fun W => (W.cell? ⟨w.heap.size, 0, none⟩ = some (.int .i64 k) ∧ W.cell? ⟨w.heap.size, 1, none⟩ = some (.string nm) ∧ W.cell? ⟨w.heap.size, 2, none⟩ = some (.string ot) ∧ W.cell? ⟨w.heap.size, 3, none⟩ = some (.int .i64 n) ∧ W.cell? ⟨w.heap.size, 4, none⟩ = some (.int .i64 ty.kind) ∧ W.cell? ⟨w.heap.size, 5, none⟩ = some (.slice l.ta l.tn l.tc) ∧ W.cell? ⟨w.heap.size, 6, none⟩ = some (.int .i64 re.kind) ∧ W.cell? ⟨w.heap.size, 7, none⟩ = some (.slice l.ra l.rn l.rc) ∧ W.cell? ⟨w.heap.size, 8, none⟩ = some (.slice l.aa l.an l.ac)))
        (first | exact ⟨u0, u1, u2, u3, u4, u5, u6, u7, u8⟩ | exact Blk.nine (t := ⟨k, nm, ot, n, ty, re, xs⟩) (l := l) B1)
        (first
          | (go_at_call 77; (with_reducible refine (CA.out _).mono ?_); rintro e w1 ⟨rfl, b1⟩
             have B1 : Blk w1 _ _ _ := Blk.under (w := (w.alloc (.cells #[.int .i64 k, .string nm, .string ot, .int .i64 n, .int .i64 ty.kind, .slice l.ta l.tn l.tc, .int .i64 re.kind, .slice l.ra l.rn l.rc, .slice l.aa l.an l.ac] 29)).drew) B0 b1
             have k1 := below_next kd b1))
      obtain ⟨v0, v1, v2, v3, v4, v5, v6, v7, v8⟩ := Blk.nine (t := ⟨k, nm, ot, n, ty, re, xs⟩) (l := l) B1
      dsimp only at v0 v1 v2 v3 v4 v5 v6 v7 v8
      obtain ⟨r0, r1, r2, r3, r4, r5, r6, r7, r8⟩ := Blk.nine_new (t := ⟨k, nm, ot, n, ty, re, xs⟩) (l := l) B1
      dsimp only at r0 r1 r2 r3 r4 r5 r6 r7 r8
      have km : Below w.heap.size w (w1.alloc (.cells #[.int .i64 k, .string ⟨#[]⟩, .string ⟨#[]⟩, .int .i64 0, .int .i64 0, .slice none 0 0, .int .i64 0, .slice none 0 0, .slice none 0 0] 29)) := below_next k1 (below_new _ _)
      go_wp2_with (first
          | (go_at_call 78; (with_reducible refine (CN1.out _ km).mono ?_); rintro e w2 ⟨rfl, b2⟩
             have k2 := below_next km b2
             have B2 : Blk w2 _ _ _ := Blk.under (w := (w1.alloc (.cells #[.int .i64 k, .string ⟨#[]⟩, .string ⟨#[]⟩, .int .i64 0, .int .i64 0, .slice none 0 0, .int .i64 0, .slice none 0 0, .slice none 0 0] 29))) (B1.alloc _) b2
             have M2 : Blk w2 _ _ _ := Blk.under (w := (w1.alloc (.cells #[.int .i64 k, .string ⟨#[]⟩, .string ⟨#[]⟩, .int .i64 0, .int .i64 0, .slice none 0 0, .int .i64 0, .slice none 0 0, .slice none 0 0] 29))) (Blk.new w1 29 #[.int .i64 k, .string ⟨#[]⟩, .string ⟨#[]⟩, .int .i64 0, .int .i64 0, .slice none 0 0, .int .i64 0, .slice none 0 0, .slice none 0 0]) b2
             obtain ⟨p0, p1, p2, p3, p4, p5, p6, p7, p8⟩ := Blk.nine (t := ⟨k, nm, ot, n, ty, re, xs⟩) (l := l) B2
             dsimp only at p0 p1 p2 p3 p4 p5 p6 p7 p8
             obtain ⟨q0, q1, q2, q3, q4, q5, q6, q7, q8⟩ : _ ∧ _ ∧ _ ∧ _ ∧ _ ∧ _ ∧ _ ∧ _ ∧ _ := ⟨M2.cell 0, M2.cell 1, M2.cell 2, M2.cell 3, M2.cell 4, M2.cell 5, M2.cell 6, M2.cell 7, M2.cell 8⟩
             simp at q0 q1 q2 q3 q4 q5 q6 q7 q8)
          | (go_at_call 79; (with_reducible refine (CE1.out _ k2).mono ?_); rintro e w3 ⟨rfl, b3⟩
             have k3 := below_next k2 b3
             have B3 := B2.under b3
             have M3 := M2.under b3
             obtain ⟨p0', p1', p2', p3', p4', p5', p6', p7', p8'⟩ := Blk.nine (t := ⟨k, nm, ot, n, ty, re, xs⟩) (l := l) B3
             dsimp only at p0' p1' p2' p3' p4' p5' p6' p7' p8'
             obtain ⟨q0', q1', q2', q3', q4', q5', q6', q7', q8'⟩ : _ ∧ _ ∧ _ ∧ _ ∧ _ ∧ _ ∧ _ ∧ _ ∧ _ := ⟨M3.cell 0, M3.cell 1, M3.cell 2, M3.cell 3, M3.cell 4, M3.cell 5, M3.cell 6, M3.cell 7, M3.cell 8⟩
             simp at q0' q1' q2' q3' q4' q5' q6' q7' q8')
          | (go_at_call 79; (with_reducible refine (CE2.out _ k3).mono ?_); rintro e w4 ⟨rfl, b4⟩
             have k4 := below_next k3 b4))
      all_goals go_ret
      all_goals exact ⟨ret_bool hf.out.symm, k2⟩
    | true =>
      have CN1 := CN
      rw [hn] at hf CN1
      rw [Bool.true_and] at hf
      replace hf := hide hf
      replace CN1 := hide CN1
      replace hn := hide hn
      clear CN
      have B0 := Blk.new w 29 #[.int .i64 k, .string nm, .string ot, .int .i64 n, .int .i64 ty.kind, .slice l.ta l.tn l.tc, .int .i64 re.kind, .slice l.ra l.rn l.rc, .slice l.aa l.an l.ac]
      have kd : Below w.heap.size w (w.alloc (.cells #[.int .i64 k, .string nm, .string ot, .int .i64 n, .int .i64 ty.kind, .slice l.ta l.tn l.tc, .int .i64 re.kind, .slice l.ra l.rn l.rc, .slice l.aa l.an l.ac] 29)).drew := below_next k0 (below_drew _)
      obtain ⟨u0, u1, u2, u3, u4, u5, u6, u7, u8⟩ := Blk.nine (t := ⟨k, nm, ot, n, ty, re, xs⟩) (l := l) B0
      dsimp only at u0 u1 u2 u3 u4 u5 u6 u7 u8
      go_enter Tryz.func51, Tryz.ntmps51
      go_wp2_with fail
      go_region_held3 (fun W => (W.cell? ⟨w.heap.size, 0, none⟩ = some (.int .i64 k) ∧ W.cell? ⟨w.heap.size, 1, none⟩ = some (.string nm) ∧ W.cell? ⟨w.heap.size, 2, none⟩ = some (.string ot) ∧ W.cell? ⟨w.heap.size, 3, none⟩ = some (.int .i64 n) ∧ W.cell? ⟨w.heap.size, 4, none⟩ = some (.int .i64 ty.kind) ∧ W.cell? ⟨w.heap.size, 5, none⟩ = some (.slice l.ta l.tn l.tc) ∧ W.cell? ⟨w.heap.size, 6, none⟩ = some (.int .i64 re.kind) ∧ W.cell? ⟨w.heap.size, 7, none⟩ = some (.slice l.ra l.rn l.rc) ∧ W.cell? ⟨w.heap.size, 8, none⟩ = some (.slice l.aa l.an l.ac)))
        (first | exact ⟨u0, u1, u2, u3, u4, u5, u6, u7, u8⟩ | exact Blk.nine (t := ⟨k, nm, ot, n, ty, re, xs⟩) (l := l) B1)
        (first
          | (go_at_call 77; (with_reducible refine (CA.out _).mono ?_); rintro e w1 ⟨rfl, b1⟩
             have B1 : Blk w1 _ _ _ := Blk.under (w := (w.alloc (.cells #[.int .i64 k, .string nm, .string ot, .int .i64 n, .int .i64 ty.kind, .slice l.ta l.tn l.tc, .int .i64 re.kind, .slice l.ra l.rn l.rc, .slice l.aa l.an l.ac] 29)).drew) B0 b1
             have k1 := below_next kd b1))
      obtain ⟨v0, v1, v2, v3, v4, v5, v6, v7, v8⟩ := Blk.nine (t := ⟨k, nm, ot, n, ty, re, xs⟩) (l := l) B1
      dsimp only at v0 v1 v2 v3 v4 v5 v6 v7 v8
      obtain ⟨r0, r1, r2, r3, r4, r5, r6, r7, r8⟩ := Blk.nine_new (t := ⟨k, nm, ot, n, ty, re, xs⟩) (l := l) B1
      dsimp only at r0 r1 r2 r3 r4 r5 r6 r7 r8
      have km : Below w.heap.size w (w1.alloc (.cells #[.int .i64 k, .string ⟨#[]⟩, .string ⟨#[]⟩, .int .i64 0, .int .i64 0, .slice none 0 0, .int .i64 0, .slice none 0 0, .slice none 0 0] 29)) := below_next k1 (below_new _ _)
      go_wp2_with (first
          | (go_at_call 78; (with_reducible refine (CN1.out _ km).mono ?_); rintro e w2 ⟨rfl, b2⟩
             have k2 := below_next km b2
             have B2 : Blk w2 _ _ _ := Blk.under (w := (w1.alloc (.cells #[.int .i64 k, .string ⟨#[]⟩, .string ⟨#[]⟩, .int .i64 0, .int .i64 0, .slice none 0 0, .int .i64 0, .slice none 0 0, .slice none 0 0] 29))) (B1.alloc _) b2
             have M2 : Blk w2 _ _ _ := Blk.under (w := (w1.alloc (.cells #[.int .i64 k, .string ⟨#[]⟩, .string ⟨#[]⟩, .int .i64 0, .int .i64 0, .slice none 0 0, .int .i64 0, .slice none 0 0, .slice none 0 0] 29))) (Blk.new w1 29 #[.int .i64 k, .string ⟨#[]⟩, .string ⟨#[]⟩, .int .i64 0, .int .i64 0, .slice none 0 0, .int .i64 0, .slice none 0 0, .slice none 0 0]) b2
             obtain ⟨p0, p1, p2, p3, p4, p5, p6, p7, p8⟩ := Blk.nine (t := ⟨k, nm, ot, n, ty, re, xs⟩) (l := l) B2
             dsimp only at p0 p1 p2 p3 p4 p5 p6 p7 p8
             obtain ⟨q0, q1, q2, q3, q4, q5, q6, q7, q8⟩ : _ ∧ _ ∧ _ ∧ _ ∧ _ ∧ _ ∧ _ ∧ _ ∧ _ := ⟨M2.cell 0, M2.cell 1, M2.cell 2, M2.cell 3, M2.cell 4, M2.cell 5, M2.cell 6, M2.cell 7, M2.cell 8⟩
             simp at q0 q1 q2 q3 q4 q5 q6 q7 q8)
          | (go_at_call 79; (with_reducible refine (CE1.out _ k2).mono ?_); rintro e w3 ⟨rfl, b3⟩
             have k3 := below_next k2 b3
             have B3 := B2.under b3
             have M3 := M2.under b3
             obtain ⟨p0', p1', p2', p3', p4', p5', p6', p7', p8'⟩ := Blk.nine (t := ⟨k, nm, ot, n, ty, re, xs⟩) (l := l) B3
             dsimp only at p0' p1' p2' p3' p4' p5' p6' p7' p8'
             obtain ⟨q0', q1', q2', q3', q4', q5', q6', q7', q8'⟩ : _ ∧ _ ∧ _ ∧ _ ∧ _ ∧ _ ∧ _ ∧ _ ∧ _ := ⟨M3.cell 0, M3.cell 1, M3.cell 2, M3.cell 3, M3.cell 4, M3.cell 5, M3.cell 6, M3.cell 7, M3.cell 8⟩
             simp at q0' q1' q2' q3' q4' q5' q6' q7' q8')
          | (go_at_call 79; (with_reducible refine (CE2.out _ k3).mono ?_); rintro e w4 ⟨rfl, b4⟩
             have k4 := below_next k3 b4))
      all_goals go_ret
      all_goals first
        | exact ⟨ret_bool (by rw [hf.out]; simp_all), k4⟩
        | exact ⟨ret_bool (by rw [hf.out]; simp_all), k3⟩
        | exact ⟨ret_bool (by rw [hf.out]; simp_all), k2⟩
        | trace_state
end Go.Proofs.YtklifieahcoljaaGreat

namespace Go.Proofs.YtklifieahcoljaaGreat
open Go.RowKit

theorem isForm_any (t : Tm) (l : Lt) (w : World) (h : Md w t l) (hw : t.wt ≤ 1048576) :
    Calls Tryz.prog 51 #[.agg #[.int .i64 t.kind, .string t.name, .string t.other, .int .i64 t.n, .int .i64 t.type.kind, .slice l.ta l.tn l.tc, .int .i64 t.res.kind, .slice l.ra l.rn l.rc, .slice l.aa l.an l.ac]] w fun e w' => e = .returned (.bool (formI t)) ∧ Below w.heap.size w w' := by
  by_cases h1 : t.kind = 1
  · exact isForm_1 t l w h hw h1
  by_cases h2 : t.kind = 2
  · exact isForm_2 t l w h hw h2
  by_cases h3 : t.kind = 3
  · exact isForm_3 t l w h hw h3
  by_cases h4 : t.kind = 4
  · exact isForm_4 t l w h hw h4
  by_cases h6 : t.kind = 6
  · exact isForm_6 t l w h hw h6
  by_cases h8 : t.kind = 8
  · exact isForm_8 t l w h hw h8
  by_cases h9 : t.kind = 9
  · exact isForm_9 t l w h hw h9
  exact isForm_k t l w h hw ⟨h1, h2, h3, h4, h6, h8, h9⟩
end Go.Proofs.YtklifieahcoljaaGreat

namespace Go.Proofs.YtklifieahcoljaaGreat
open Go.RowKit
set_option linter.unusedVariables false
set_option linter.unusedSimpArgs false

set_option maxHeartbeats 1600000 in
theorem allTerms_isForm_any (t : Tm) : ∀ (l : Lt) (w : World), Md w t l → t.wt ≤ 1048576 →
    Calls Tryz.prog 27 #[.agg #[.int .i64 t.kind, .string t.name, .string t.other, .int .i64 t.n, .int .i64 t.type.kind, .slice l.ta l.tn l.tc, .int .i64 t.res.kind, .slice l.ra l.rn l.rc, .slice l.aa l.an l.ac], .func (.func 51) #[] #[]] w fun e w' => e = .returned (.bool (t.all formI)) ∧ Below w.heap.size w w' := by
  induction t using Tm.ind' with | h t ih => ?_
  intro l w h hw
  have L : ∀ x ∈ t.args, LitTm (.func (.func 51) #[] #[]) (fun x => !x.all formI) x := by
    intro x hx bx l' W hd hA
    have C := hide (fun W hW => ih x hx l' W hW (Tm.wt_arg hx hw))
    have hA1 : ∀ o, (W.alloc o).cell? ⟨bx, 0, none⟩ = some (.func (.func 51) #[] #[]) := fun o => (World.cell?_alloc_lt W o _ (World.block_lt_of_cell? _ _ hA)).trans hA
    clear ih hA
    go_enter Tryz.func58, Tryz.ntmps58
    go_wp2_with (go_at_call 27; (with_reducible refine (C.out _ (hd.below (below_new _ _))).mono ?_); rintro e w' ⟨rfl, hb'⟩)
    go_ret
    exact ⟨rfl, below_of_alloc hb'⟩
  clear ih
  have CC := hide (containsFuncTm_of (.func (.func 51) #[] #[]) (fun x => !x.all formI) t.args L)
  clear L
  obtain ⟨-, -, -, hr⟩ := h.shape
  have hall := Tm.all_eq formI t
  have hp' : ∀ W, Below w.heap.size w W → Md W t l := fun W hW => h.below hW
  have C := fun W hd => isForm_any t l W hd hw
  cases hpt : formI t with
  | true =>
    rw [hpt] at C hall
    replace hall := hide hall
    clear hpt
    replace C := hide C
    go_enter Tryz.func27, Tryz.ntmps27
    go_wp2_with (first
      | (go_at_call 51; (with_reducible refine (C.out _ (hp' _ (by repeat (first | exact Below.refl _ _ | assumption | refine Below.drew ?_ | refine below_drewN ?_ _ | refine Below.alloc ?_ (by first | omega | (simp; done) | (simp; omega)) _ | refine Below.setCell ?_ (by first | omega | (simp; done) | (simp; omega)) _)))).mono ?_); rintro e w1 ⟨rfl, b1⟩
         have B1 := Blk.under ((Blk.new w 29 #[.int .i64 t.kind, .string t.name, .string t.other, .int .i64 t.n, .int .i64 t.type.kind, .slice l.ta l.tn l.tc, .int .i64 t.res.kind, .slice l.ra l.rn l.rc, .slice l.aa l.an l.ac]).alloc (.cells #[.func (.func 51) #[] #[]] 33)) b1
         have A1 := (Blk.new2 w (.cells #[.int .i64 t.kind, .string t.name, .string t.other, .int .i64 t.n, .int .i64 t.type.kind, .slice l.ta l.tn l.tc, .int .i64 t.res.kind, .slice l.ra l.rn l.rc, .slice l.aa l.an l.ac] 29) 33 #[.func (.func 51) #[] #[]]).under b1
         obtain ⟨u0, u1, u2, u3, u4, u5, u6, u7, u8⟩ := B1.nine
         have hA1 := hide (A1.cell 0))
      | (go_at_call 57; (with_reducible refine (CC.out _ _ _ _ _ (hr.below (by repeat (first | exact Below.refl _ _ | refine Below.drew ?_ | refine below_drewN ?_ _ | refine Below.alloc ?_ (by first | omega | (simp; done) | (simp; omega)) _ | refine Below.setCell ?_ (by first | omega | (simp; done) | (simp; omega)) _ | refine Below.trans ?_ (Below.mono b1 (by first | omega | (simp; done) | (simp; omega)))))) hA1.out).mono ?_); rintro e w2 ⟨rfl, b2⟩))
    go_ret
    refine ⟨ret_bool ?_, below_next (by repeat (first | exact Below.refl _ _ | refine Below.drew ?_ | refine below_drewN ?_ _ | refine Below.alloc ?_ (by first | omega | (simp; done) | (simp; omega)) _ | refine Below.setCell ?_ (by first | omega | (simp; done) | (simp; omega)) _ | refine Below.trans ?_ (Below.mono b1 (by first | omega | (simp; done) | (simp; omega))))) b2⟩
    rw [hall.out, all_not_any]
    rfl
  | false =>
    rw [hpt] at C hall
    replace hall := hide hall
    clear hpt
    replace C := hide C
    go_enter Tryz.func27, Tryz.ntmps27
    go_wp2_with (go_at_call 51; (with_reducible refine (C.out _ (hp' _ (by repeat (first | exact Below.refl _ _ | assumption | refine Below.drew ?_ | refine below_drewN ?_ _ | refine Below.alloc ?_ (by first | omega | (simp; done) | (simp; omega)) _ | refine Below.setCell ?_ (by first | omega | (simp; done) | (simp; omega)) _)))).mono ?_); rintro e w1 ⟨rfl, b1⟩)
    go_ret
    refine ⟨ret_bool ?_, (by repeat (first | exact Below.refl _ _ | refine Below.drew ?_ | refine below_drewN ?_ _ | refine Below.alloc ?_ (by first | omega | (simp; done) | (simp; omega)) _ | refine Below.setCell ?_ (by first | omega | (simp; done) | (simp; omega)) _ | refine Below.trans ?_ (Below.mono b1 (by first | omega | (simp; done) | (simp; omega)))))⟩
    rw [hall.out]
    rfl
end Go.Proofs.YtklifieahcoljaaGreat

namespace Go.Proofs.YtklifieahcoljaaGreat
open Go.RowKit
set_option maxRecDepth 100000
set_option linter.unusedVariables false
set_option linter.unusedSimpArgs false

set_option maxHeartbeats 6400000 in
theorem l5Fields_6 (t : Tm) (l : Lt) (w : World) (h : Md w t l) (hw : t.wt ≤ 1048576) (hk : t.kind = 6) :
    Calls Tryz.prog 53 #[.agg #[.int .i64 t.kind, .string t.name, .string t.other, .int .i64 t.n, .int .i64 t.type.kind, .slice l.ta l.tn l.tc, .int .i64 t.res.kind, .slice l.ra l.rn l.rc, .slice l.aa l.an l.ac]] w fun e w' => e = .returned (.bool (fieldsS t)) ∧ Below w.heap.size w w' := by
  obtain ⟨-, ht, hre, -⟩ := h.shape
  have hwt := t.wt_eq
  have h1 : t.name.size ≤ 1048576 := by omega
  have h2 : t.other.size ≤ 1048576 := by omega
  have CV := hide fun W (hW : Below w.heap.size w W) => specIsValidType_any t.type _ _ W (ht.below hW)
  have CZ := hide fun W (hW : Below w.heap.size w W) => l5Zero_any t.type _ _ W (ht.below hW)
  have DV := hide fun W (hW : Below w.heap.size w W) => specIsValidType_any t.res _ _ W (hre.below hW)
  have DZ := hide fun W (hW : Below w.heap.size w W) => l5Zero_any t.res _ _ W (hre.below hW)
  have NM := hide fun W => l5Names_any t l W h1 h2
  have k0 : Below w.heap.size w (w.alloc (.cells #[.int .i64 t.kind, .string t.name, .string t.other, .int .i64 t.n, .int .i64 t.type.kind, .slice l.ta l.tn l.tc, .int .i64 t.res.kind, .slice l.ra l.rn l.rc, .slice l.aa l.an l.ac] 29)) := below_new _ _
  have hf := fieldsS_eq t
  obtain ⟨k, nm, ot, n, ty, re, xs⟩ := t
  dsimp only at *
  subst hk
  cases hvt : ty.valid with
  | false =>
    rw [hvt] at CV hf
    simp at hf
    rw [hf]
    go_enter Tryz.func53, Tryz.ntmps53
    go_wp2_with (first | (go_at_call 80; (with_reducible refine (CV.out _ k0).mono ?_); rintro e w1 ⟨rfl, b1⟩; have k1 := below_of_alloc b1; have B1 := (Blk.new w _ _).under b1; obtain ⟨u0, u1, u2, u3, u4, u5, u6, u7, u8⟩ := Blk.nine (t := ⟨6, nm, ot, n, ty, re, xs⟩) (l := l) B1; dsimp only at u0 u1 u2 u3 u4 u5 u6 u7 u8))
    go_ret
    exact ⟨rfl, k1⟩
  | true =>
    rw [hvt] at CV hf
    cases hvr : re.valid with
    | true =>
      rw [hvr] at DV hf
      simp at hf
      rw [hf]
      go_enter Tryz.func53, Tryz.ntmps53
      go_wp2_with (first | (go_at_call 80; (with_reducible refine (CV.out _ k0).mono ?_); rintro e w1 ⟨rfl, b1⟩; have k1 := below_of_alloc b1; have B1 := (Blk.new w _ _).under b1; obtain ⟨u0, u1, u2, u3, u4, u5, u6, u7, u8⟩ := Blk.nine (t := ⟨6, nm, ot, n, ty, re, xs⟩) (l := l) B1; dsimp only at u0 u1 u2 u3 u4 u5 u6 u7 u8))
      have kd : Below w.heap.size w w1.drew := below_next k1 (below_drew _)
      have hun : undef = Value.tuple #[] := rfl
      first | go_region_with (first
          | (go_at_call 80; (with_reducible refine (DV.out _ kd).mono ?_); rintro e w3 ⟨rfl, b3⟩
             have B3 : Blk w3 _ _ _ := Blk.under (w := w1.drew) B1 b3
             have k3 := below_next kd b3
             obtain ⟨p0, p1, p2, p3, p4, p5, p6, p7, p8⟩ := Blk.nine (t := ⟨6, nm, ot, n, ty, re, xs⟩) (l := l) B3; dsimp only at p0 p1 p2 p3 p4 p5 p6 p7 p8)
          | (go_at_call 81; (with_reducible refine (DZ.out _ k3).mono ?_); rintro e w4 ⟨rfl, b4⟩
             have B4 := B3.under b4
             have k4 := below_next k3 b4
             obtain ⟨q0, q1, q2, q3, q4, q5, q6, q7, q8⟩ := Blk.nine (t := ⟨6, nm, ot, n, ty, re, xs⟩) (l := l) B4; dsimp only at q0 q1 q2 q3 q4 q5 q6 q7 q8)) | fail
      all_goals clear hun
      all_goals go_wp2_with fail
      all_goals go_ret
      all_goals exact ⟨rfl, k3⟩
    | false =>
      rw [hvr] at DV hf
      cases hzr : re.zero with
      | false =>
        rw [hzr] at DZ hf
        simp at hf
        rw [hf]
        go_enter Tryz.func53, Tryz.ntmps53
        go_wp2_with (first | (go_at_call 80; (with_reducible refine (CV.out _ k0).mono ?_); rintro e w1 ⟨rfl, b1⟩; have k1 := below_of_alloc b1; have B1 := (Blk.new w _ _).under b1; obtain ⟨u0, u1, u2, u3, u4, u5, u6, u7, u8⟩ := Blk.nine (t := ⟨6, nm, ot, n, ty, re, xs⟩) (l := l) B1; dsimp only at u0 u1 u2 u3 u4 u5 u6 u7 u8))
        have kd : Below w.heap.size w w1.drew := below_next k1 (below_drew _)
        have hun : undef = Value.tuple #[] := rfl
        first | go_region_with (first
            | (go_at_call 80; (with_reducible refine (DV.out _ kd).mono ?_); rintro e w3 ⟨rfl, b3⟩
               have B3 : Blk w3 _ _ _ := Blk.under (w := w1.drew) B1 b3
               have k3 := below_next kd b3
               obtain ⟨p0, p1, p2, p3, p4, p5, p6, p7, p8⟩ := Blk.nine (t := ⟨6, nm, ot, n, ty, re, xs⟩) (l := l) B3; dsimp only at p0 p1 p2 p3 p4 p5 p6 p7 p8)
            | (go_at_call 81; (with_reducible refine (DZ.out _ k3).mono ?_); rintro e w4 ⟨rfl, b4⟩
               have B4 := B3.under b4
               have k4 := below_next k3 b4
               obtain ⟨q0, q1, q2, q3, q4, q5, q6, q7, q8⟩ := Blk.nine (t := ⟨6, nm, ot, n, ty, re, xs⟩) (l := l) B4; dsimp only at q0 q1 q2 q3 q4 q5 q6 q7 q8)) | fail
        all_goals clear hun
        all_goals go_wp2_with fail
        all_goals go_ret
        all_goals exact ⟨rfl, k4⟩
      | true =>
        rw [hzr] at DZ hf
        go_enter Tryz.func53, Tryz.ntmps53
        go_wp2_with (first | (go_at_call 80; (with_reducible refine (CV.out _ k0).mono ?_); rintro e w1 ⟨rfl, b1⟩; have k1 := below_of_alloc b1; have B1 := (Blk.new w _ _).under b1; obtain ⟨u0, u1, u2, u3, u4, u5, u6, u7, u8⟩ := Blk.nine (t := ⟨6, nm, ot, n, ty, re, xs⟩) (l := l) B1; dsimp only at u0 u1 u2 u3 u4 u5 u6 u7 u8))
        have kd : Below w.heap.size w w1.drew := below_next k1 (below_drew _)
        have hun : undef = Value.tuple #[] := rfl
        first | go_region_with (first
            | (go_at_call 80; (with_reducible refine (DV.out _ kd).mono ?_); rintro e w3 ⟨rfl, b3⟩
               have B3 : Blk w3 _ _ _ := Blk.under (w := w1.drew) B1 b3
               have k3 := below_next kd b3
               obtain ⟨p0, p1, p2, p3, p4, p5, p6, p7, p8⟩ := Blk.nine (t := ⟨6, nm, ot, n, ty, re, xs⟩) (l := l) B3; dsimp only at p0 p1 p2 p3 p4 p5 p6 p7 p8)
            | (go_at_call 81; (with_reducible refine (DZ.out _ k3).mono ?_); rintro e w4 ⟨rfl, b4⟩
               have B4 := B3.under b4
               have k4 := below_next k3 b4
               obtain ⟨q0, q1, q2, q3, q4, q5, q6, q7, q8⟩ := Blk.nine (t := ⟨6, nm, ot, n, ty, re, xs⟩) (l := l) B4; dsimp only at q0 q1 q2 q3 q4 q5 q6 q7 q8)) | fail
        all_goals clear hun
        all_goals go_wp2_with (first | (go_at_call 55; (with_reducible refine (l1In_any _ _ _ _).mono ?_); rintro e w5 ⟨rfl, rfl⟩) | (go_at_call 82; (with_reducible refine (NM.out _).mono ?_); rintro e w6 ⟨rfl, b6⟩))
        all_goals go_ret
        all_goals first
          | exact ⟨ret_bool (by rw [hf]; simp_all [mostN]), k4⟩
          | exact ⟨ret_bool (by rw [hf]; simp_all [mostN]), below_next k4 b6⟩
end Go.Proofs.YtklifieahcoljaaGreat

namespace Go.Proofs.YtklifieahcoljaaGreat
open Go.RowKit
set_option maxRecDepth 100000
set_option linter.unusedVariables false
set_option linter.unusedSimpArgs false

set_option maxHeartbeats 6400000 in
theorem l5Fields_9 (t : Tm) (l : Lt) (w : World) (h : Md w t l) (hw : t.wt ≤ 1048576) (hk : t.kind = 9) :
    Calls Tryz.prog 53 #[.agg #[.int .i64 t.kind, .string t.name, .string t.other, .int .i64 t.n, .int .i64 t.type.kind, .slice l.ta l.tn l.tc, .int .i64 t.res.kind, .slice l.ra l.rn l.rc, .slice l.aa l.an l.ac]] w fun e w' => e = .returned (.bool (fieldsS t)) ∧ Below w.heap.size w w' := by
  obtain ⟨-, ht, hre, -⟩ := h.shape
  have hwt := t.wt_eq
  have h1 : t.name.size ≤ 1048576 := by omega
  have h2 : t.other.size ≤ 1048576 := by omega
  have CV := hide fun W (hW : Below w.heap.size w W) => specIsValidType_any t.type _ _ W (ht.below hW)
  have CZ := hide fun W (hW : Below w.heap.size w W) => l5Zero_any t.type _ _ W (ht.below hW)
  have DV := hide fun W (hW : Below w.heap.size w W) => specIsValidType_any t.res _ _ W (hre.below hW)
  have DZ := hide fun W (hW : Below w.heap.size w W) => l5Zero_any t.res _ _ W (hre.below hW)
  have NM := hide fun W => l5Names_any t l W h1 h2
  have k0 : Below w.heap.size w (w.alloc (.cells #[.int .i64 t.kind, .string t.name, .string t.other, .int .i64 t.n, .int .i64 t.type.kind, .slice l.ta l.tn l.tc, .int .i64 t.res.kind, .slice l.ra l.rn l.rc, .slice l.aa l.an l.ac] 29)) := below_new _ _
  have hf := fieldsS_eq t
  obtain ⟨k, nm, ot, n, ty, re, xs⟩ := t
  dsimp only at *
  subst hk
  cases hvt : ty.valid with
  | false =>
    rw [hvt] at CV hf
    simp at hf
    rw [hf]
    go_enter Tryz.func53, Tryz.ntmps53
    go_wp2_with (first | (go_at_call 80; (with_reducible refine (CV.out _ k0).mono ?_); rintro e w1 ⟨rfl, b1⟩; have k1 := below_of_alloc b1; have B1 := (Blk.new w _ _).under b1; obtain ⟨u0, u1, u2, u3, u4, u5, u6, u7, u8⟩ := Blk.nine (t := ⟨9, nm, ot, n, ty, re, xs⟩) (l := l) B1; dsimp only at u0 u1 u2 u3 u4 u5 u6 u7 u8))
    go_ret
    exact ⟨rfl, k1⟩
  | true =>
    rw [hvt] at CV hf
    cases hvr : re.valid with
    | false =>
      rw [hvr] at DV hf
      simp at hf
      rw [hf]
      go_enter Tryz.func53, Tryz.ntmps53
      go_wp2_with (first | (go_at_call 80; (with_reducible refine (CV.out _ k0).mono ?_); rintro e w1 ⟨rfl, b1⟩; have k1 := below_of_alloc b1; have B1 := (Blk.new w _ _).under b1; obtain ⟨u0, u1, u2, u3, u4, u5, u6, u7, u8⟩ := Blk.nine (t := ⟨9, nm, ot, n, ty, re, xs⟩) (l := l) B1; dsimp only at u0 u1 u2 u3 u4 u5 u6 u7 u8))
      have kd : Below w.heap.size w w1.drew := below_next k1 (below_drew _)
      have hun : undef = Value.tuple #[] := rfl
      first | go_region_with (first
          | (go_at_call 80; (with_reducible refine (DV.out _ kd).mono ?_); rintro e w3 ⟨rfl, b3⟩
             have B3 : Blk w3 _ _ _ := Blk.under (w := w1.drew) B1 b3
             have k3 := below_next kd b3
             obtain ⟨p0, p1, p2, p3, p4, p5, p6, p7, p8⟩ := Blk.nine (t := ⟨9, nm, ot, n, ty, re, xs⟩) (l := l) B3; dsimp only at p0 p1 p2 p3 p4 p5 p6 p7 p8)
          | (go_at_call 81; (with_reducible refine (DZ.out _ k3).mono ?_); rintro e w4 ⟨rfl, b4⟩
             have B4 := B3.under b4
             have k4 := below_next k3 b4
             obtain ⟨q0, q1, q2, q3, q4, q5, q6, q7, q8⟩ := Blk.nine (t := ⟨9, nm, ot, n, ty, re, xs⟩) (l := l) B4; dsimp only at q0 q1 q2 q3 q4 q5 q6 q7 q8)) | fail
      all_goals clear hun
      all_goals go_wp2_with fail
      all_goals go_ret
      all_goals exact ⟨rfl, k3⟩
    | true =>
      rw [hvr] at DV hf
      go_enter Tryz.func53, Tryz.ntmps53
      go_wp2_with (first | (go_at_call 80; (with_reducible refine (CV.out _ k0).mono ?_); rintro e w1 ⟨rfl, b1⟩; have k1 := below_of_alloc b1; have B1 := (Blk.new w _ _).under b1; obtain ⟨u0, u1, u2, u3, u4, u5, u6, u7, u8⟩ := Blk.nine (t := ⟨9, nm, ot, n, ty, re, xs⟩) (l := l) B1; dsimp only at u0 u1 u2 u3 u4 u5 u6 u7 u8))
      have kd : Below w.heap.size w w1.drew := below_next k1 (below_drew _)
      have hun : undef = Value.tuple #[] := rfl
      first | go_region_with (first
          | (go_at_call 80; (with_reducible refine (DV.out _ kd).mono ?_); rintro e w3 ⟨rfl, b3⟩
             have B3 : Blk w3 _ _ _ := Blk.under (w := w1.drew) B1 b3
             have k3 := below_next kd b3
             obtain ⟨p0, p1, p2, p3, p4, p5, p6, p7, p8⟩ := Blk.nine (t := ⟨9, nm, ot, n, ty, re, xs⟩) (l := l) B3; dsimp only at p0 p1 p2 p3 p4 p5 p6 p7 p8)
          | (go_at_call 81; (with_reducible refine (DZ.out _ k3).mono ?_); rintro e w4 ⟨rfl, b4⟩
             have B4 := B3.under b4
             have k4 := below_next k3 b4
             obtain ⟨q0, q1, q2, q3, q4, q5, q6, q7, q8⟩ := Blk.nine (t := ⟨9, nm, ot, n, ty, re, xs⟩) (l := l) B4; dsimp only at q0 q1 q2 q3 q4 q5 q6 q7 q8)) | fail
      all_goals clear hun
      all_goals go_wp2_with (first | (go_at_call 55; (with_reducible refine (l1In_any _ _ _ _).mono ?_); rintro e w5 ⟨rfl, rfl⟩) | (go_at_call 82; (with_reducible refine (NM.out _).mono ?_); rintro e w6 ⟨rfl, b6⟩))
      all_goals go_ret
      all_goals first
        | exact ⟨ret_bool (by rw [hf]; simp_all [mostN]), k3⟩
        | exact ⟨ret_bool (by rw [hf]; simp_all [mostN]), below_next k3 b6⟩
end Go.Proofs.YtklifieahcoljaaGreat

namespace Go.Proofs.YtklifieahcoljaaGreat
open Go.RowKit
set_option maxRecDepth 100000
set_option linter.unusedVariables false
set_option linter.unusedSimpArgs false

set_option maxHeartbeats 6400000 in
theorem l5Fields_k (t : Tm) (l : Lt) (w : World) (h : Md w t l) (hw : t.wt ≤ 1048576) (hk : t.kind ≠ 6 ∧ t.kind ≠ 9) :
    Calls Tryz.prog 53 #[.agg #[.int .i64 t.kind, .string t.name, .string t.other, .int .i64 t.n, .int .i64 t.type.kind, .slice l.ta l.tn l.tc, .int .i64 t.res.kind, .slice l.ra l.rn l.rc, .slice l.aa l.an l.ac]] w fun e w' => e = .returned (.bool (fieldsS t)) ∧ Below w.heap.size w w' := by
  obtain ⟨-, ht, hre, -⟩ := h.shape
  have hwt := t.wt_eq
  have h1 : t.name.size ≤ 1048576 := by omega
  have h2 : t.other.size ≤ 1048576 := by omega
  have CV := hide fun W (hW : Below w.heap.size w W) => specIsValidType_any t.type _ _ W (ht.below hW)
  have CZ := hide fun W (hW : Below w.heap.size w W) => l5Zero_any t.type _ _ W (ht.below hW)
  have DV := hide fun W (hW : Below w.heap.size w W) => specIsValidType_any t.res _ _ W (hre.below hW)
  have DZ := hide fun W (hW : Below w.heap.size w W) => l5Zero_any t.res _ _ W (hre.below hW)
  have NM := hide fun W => l5Names_any t l W h1 h2
  have k0 : Below w.heap.size w (w.alloc (.cells #[.int .i64 t.kind, .string t.name, .string t.other, .int .i64 t.n, .int .i64 t.type.kind, .slice l.ta l.tn l.tc, .int .i64 t.res.kind, .slice l.ra l.rn l.rc, .slice l.aa l.an l.ac] 29)) := below_new _ _
  have hf := fieldsS_eq t
  obtain ⟨k, nm, ot, n, ty, re, xs⟩ := t
  dsimp only at *
  obtain ⟨e6, e9⟩ := hk
  have g6 : (k == 6) = false := by simp [e6]
  have g9 : (k == 9) = false := by simp [e9]
  have n9 : (k != 9) = true := by simp [e9]
  rw [g6, g9] at hf
  cases hvt : ty.valid with
  | true =>
    rw [hvt] at CV hf
    simp at hf
    rw [hf]
    go_enter Tryz.func53, Tryz.ntmps53
    go_wp2_with (first | (go_at_call 80; (with_reducible refine (CV.out _ k0).mono ?_); rintro e w1 ⟨rfl, b1⟩; have k1 := below_of_alloc b1; have B1 := (Blk.new w _ _).under b1; obtain ⟨u0, u1, u2, u3, u4, u5, u6, u7, u8⟩ := Blk.nine (t := ⟨k, nm, ot, n, ty, re, xs⟩) (l := l) B1; dsimp only at u0 u1 u2 u3 u4 u5 u6 u7 u8))
    go_ret
    exact ⟨rfl, k1⟩
  | false =>
    rw [hvt] at CV hf
    cases hzt : ty.zero with
    | false =>
      rw [hzt] at CZ hf
      simp at hf
      rw [hf]
      go_enter Tryz.func53, Tryz.ntmps53
      go_wp2_with (first | (go_at_call 80; (with_reducible refine (CV.out _ k0).mono ?_); rintro e w1 ⟨rfl, b1⟩; have k1 := below_of_alloc b1; have B1 := (Blk.new w _ _).under b1; obtain ⟨u0, u1, u2, u3, u4, u5, u6, u7, u8⟩ := Blk.nine (t := ⟨k, nm, ot, n, ty, re, xs⟩) (l := l) B1; dsimp only at u0 u1 u2 u3 u4 u5 u6 u7 u8) | (go_at_call 81; (with_reducible refine (CZ.out _ k1).mono ?_); rintro e w2 ⟨rfl, b2⟩; have k2 := below_next k1 b2; have B2 := B1.under b2; obtain ⟨v0, v1, v2, v3, v4, v5, v6, v7, v8⟩ := Blk.nine (t := ⟨k, nm, ot, n, ty, re, xs⟩) (l := l) B2; dsimp only at v0 v1 v2 v3 v4 v5 v6 v7 v8))
      go_ret
      exact ⟨rfl, k2⟩
    | true =>
      rw [hzt] at CZ hf
      cases hvr : re.valid with
      | true =>
        rw [hvr] at DV hf
        simp at hf
        rw [hf]
        go_enter Tryz.func53, Tryz.ntmps53
        go_wp2_with (first | (go_at_call 80; (with_reducible refine (CV.out _ k0).mono ?_); rintro e w1 ⟨rfl, b1⟩; have k1 := below_of_alloc b1; have B1 := (Blk.new w _ _).under b1; obtain ⟨u0, u1, u2, u3, u4, u5, u6, u7, u8⟩ := Blk.nine (t := ⟨k, nm, ot, n, ty, re, xs⟩) (l := l) B1; dsimp only at u0 u1 u2 u3 u4 u5 u6 u7 u8) | (go_at_call 81; (with_reducible refine (CZ.out _ k1).mono ?_); rintro e w2 ⟨rfl, b2⟩; have k2 := below_next k1 b2; have B2 := B1.under b2; obtain ⟨v0, v1, v2, v3, v4, v5, v6, v7, v8⟩ := Blk.nine (t := ⟨k, nm, ot, n, ty, re, xs⟩) (l := l) B2; dsimp only at v0 v1 v2 v3 v4 v5 v6 v7 v8))
        have kd : Below w.heap.size w w2.drew := below_next k2 (below_drew _)
        have hun : undef = Value.tuple #[] := rfl
        first | go_region_with (first
            | (go_at_call 80; (with_reducible refine (DV.out _ kd).mono ?_); rintro e w3 ⟨rfl, b3⟩
               have B3 : Blk w3 _ _ _ := Blk.under (w := w2.drew) B2 b3
               have k3 := below_next kd b3
               obtain ⟨p0, p1, p2, p3, p4, p5, p6, p7, p8⟩ := Blk.nine (t := ⟨k, nm, ot, n, ty, re, xs⟩) (l := l) B3; dsimp only at p0 p1 p2 p3 p4 p5 p6 p7 p8)
            | (go_at_call 81; (with_reducible refine (DZ.out _ k3).mono ?_); rintro e w4 ⟨rfl, b4⟩
               have B4 := B3.under b4
               have k4 := below_next k3 b4
               obtain ⟨q0, q1, q2, q3, q4, q5, q6, q7, q8⟩ := Blk.nine (t := ⟨k, nm, ot, n, ty, re, xs⟩) (l := l) B4; dsimp only at q0 q1 q2 q3 q4 q5 q6 q7 q8)) | fail
        all_goals clear hun
        all_goals go_wp2_with fail
        all_goals go_ret
        all_goals exact ⟨rfl, k3⟩
      | false =>
        rw [hvr] at DV hf
        cases hzr : re.zero with
        | false =>
          rw [hzr] at DZ hf
          simp at hf
          rw [hf]
          go_enter Tryz.func53, Tryz.ntmps53
          go_wp2_with (first | (go_at_call 80; (with_reducible refine (CV.out _ k0).mono ?_); rintro e w1 ⟨rfl, b1⟩; have k1 := below_of_alloc b1; have B1 := (Blk.new w _ _).under b1; obtain ⟨u0, u1, u2, u3, u4, u5, u6, u7, u8⟩ := Blk.nine (t := ⟨k, nm, ot, n, ty, re, xs⟩) (l := l) B1; dsimp only at u0 u1 u2 u3 u4 u5 u6 u7 u8) | (go_at_call 81; (with_reducible refine (CZ.out _ k1).mono ?_); rintro e w2 ⟨rfl, b2⟩; have k2 := below_next k1 b2; have B2 := B1.under b2; obtain ⟨v0, v1, v2, v3, v4, v5, v6, v7, v8⟩ := Blk.nine (t := ⟨k, nm, ot, n, ty, re, xs⟩) (l := l) B2; dsimp only at v0 v1 v2 v3 v4 v5 v6 v7 v8))
          have kd : Below w.heap.size w w2.drew := below_next k2 (below_drew _)
          have hun : undef = Value.tuple #[] := rfl
          first | go_region_with (first
              | (go_at_call 80; (with_reducible refine (DV.out _ kd).mono ?_); rintro e w3 ⟨rfl, b3⟩
                 have B3 : Blk w3 _ _ _ := Blk.under (w := w2.drew) B2 b3
                 have k3 := below_next kd b3
                 obtain ⟨p0, p1, p2, p3, p4, p5, p6, p7, p8⟩ := Blk.nine (t := ⟨k, nm, ot, n, ty, re, xs⟩) (l := l) B3; dsimp only at p0 p1 p2 p3 p4 p5 p6 p7 p8)
              | (go_at_call 81; (with_reducible refine (DZ.out _ k3).mono ?_); rintro e w4 ⟨rfl, b4⟩
                 have B4 := B3.under b4
                 have k4 := below_next k3 b4
                 obtain ⟨q0, q1, q2, q3, q4, q5, q6, q7, q8⟩ := Blk.nine (t := ⟨k, nm, ot, n, ty, re, xs⟩) (l := l) B4; dsimp only at q0 q1 q2 q3 q4 q5 q6 q7 q8)) | fail
          all_goals clear hun
          all_goals go_wp2_with fail
          all_goals go_ret
          all_goals exact ⟨rfl, k4⟩
        | true =>
          rw [hzr] at DZ hf
          go_enter Tryz.func53, Tryz.ntmps53
          go_wp2_with (first | (go_at_call 80; (with_reducible refine (CV.out _ k0).mono ?_); rintro e w1 ⟨rfl, b1⟩; have k1 := below_of_alloc b1; have B1 := (Blk.new w _ _).under b1; obtain ⟨u0, u1, u2, u3, u4, u5, u6, u7, u8⟩ := Blk.nine (t := ⟨k, nm, ot, n, ty, re, xs⟩) (l := l) B1; dsimp only at u0 u1 u2 u3 u4 u5 u6 u7 u8) | (go_at_call 81; (with_reducible refine (CZ.out _ k1).mono ?_); rintro e w2 ⟨rfl, b2⟩; have k2 := below_next k1 b2; have B2 := B1.under b2; obtain ⟨v0, v1, v2, v3, v4, v5, v6, v7, v8⟩ := Blk.nine (t := ⟨k, nm, ot, n, ty, re, xs⟩) (l := l) B2; dsimp only at v0 v1 v2 v3 v4 v5 v6 v7 v8))
          have kd : Below w.heap.size w w2.drew := below_next k2 (below_drew _)
          have hun : undef = Value.tuple #[] := rfl
          first | go_region_with (first
              | (go_at_call 80; (with_reducible refine (DV.out _ kd).mono ?_); rintro e w3 ⟨rfl, b3⟩
                 have B3 : Blk w3 _ _ _ := Blk.under (w := w2.drew) B2 b3
                 have k3 := below_next kd b3
                 obtain ⟨p0, p1, p2, p3, p4, p5, p6, p7, p8⟩ := Blk.nine (t := ⟨k, nm, ot, n, ty, re, xs⟩) (l := l) B3; dsimp only at p0 p1 p2 p3 p4 p5 p6 p7 p8)
              | (go_at_call 81; (with_reducible refine (DZ.out _ k3).mono ?_); rintro e w4 ⟨rfl, b4⟩
                 have B4 := B3.under b4
                 have k4 := below_next k3 b4
                 obtain ⟨q0, q1, q2, q3, q4, q5, q6, q7, q8⟩ := Blk.nine (t := ⟨k, nm, ot, n, ty, re, xs⟩) (l := l) B4; dsimp only at q0 q1 q2 q3 q4 q5 q6 q7 q8)) | fail
          all_goals clear hun
          all_goals go_wp2_with (first | (go_at_call 55; (with_reducible refine (l1In_any _ _ _ _).mono ?_); rintro e w5 ⟨rfl, rfl⟩) | (go_at_call 82; (with_reducible refine (NM.out _).mono ?_); rintro e w6 ⟨rfl, b6⟩))
          all_goals go_ret
          all_goals first
            | exact ⟨ret_bool (by rw [hf]; simp_all [mostN]), k4⟩
            | exact ⟨ret_bool (by rw [hf]; simp_all [mostN]), below_next k4 b6⟩
end Go.Proofs.YtklifieahcoljaaGreat

namespace Go.Proofs.YtklifieahcoljaaGreat
open Go.RowKit

theorem l5Fields_any (t : Tm) (l : Lt) (w : World) (h : Md w t l) (hw : t.wt ≤ 1048576) :
    Calls Tryz.prog 53 #[.agg #[.int .i64 t.kind, .string t.name, .string t.other, .int .i64 t.n, .int .i64 t.type.kind, .slice l.ta l.tn l.tc, .int .i64 t.res.kind, .slice l.ra l.rn l.rc, .slice l.aa l.an l.ac]] w fun e w' => e = .returned (.bool (fieldsS t)) ∧ Below w.heap.size w w' := by
  by_cases h6 : t.kind = 6
  · exact l5Fields_6 t l w h hw h6
  · by_cases h9 : t.kind = 9
    · exact l5Fields_9 t l w h hw h9
    · exact l5Fields_k t l w h hw ⟨h6, h9⟩
end Go.Proofs.YtklifieahcoljaaGreat

namespace Go.Proofs.YtklifieahcoljaaGreat
open Go.RowKit
set_option maxRecDepth 100000
set_option linter.unusedVariables false
set_option linter.unusedSimpArgs false

/-- A term of the language. -/
def Tm.ok (t : Tm) : Bool := t.all formI
theorem Tm.ok_eq (t : Tm) : t.ok = (nodeS t && t.args.all Tm.ok) := by
  rw [node_form]
  exact Tm.all_eq formI t

theorem implIsTerm_any (t : Tm) (l : Lt) (w : World) (h : Md w t l) (hw : t.wt ≤ 1048576) :
    Calls Tryz.prog 21 #[.agg #[.int .i64 t.kind, .string t.name, .string t.other, .int .i64 t.n, .int .i64 t.type.kind, .slice l.ta l.tn l.tc, .int .i64 t.res.kind, .slice l.ra l.rn l.rc, .slice l.aa l.an l.ac]] w fun e w' => e = .returned (.bool t.ok) ∧ Below w.heap.size w w' := by
  have C := hide (allTerms_isForm_any t l _ (h.below (below_new w (.cells #[.int .i64 t.kind, .string t.name, .string t.other, .int .i64 t.n, .int .i64 t.type.kind, .slice l.ta l.tn l.tc, .int .i64 t.res.kind, .slice l.ra l.rn l.rc, .slice l.aa l.an l.ac] 29))) hw)
  go_enter Tryz.func21, Tryz.ntmps21
  go_wp2_with (go_at_call 27; (with_reducible refine C.out.mono ?_); rintro e w1 ⟨rfl, b1⟩)
  go_ret
  exact ⟨rfl, below_of_alloc b1⟩

set_option maxHeartbeats 1600000 in
theorem specIsTerm_any (t : Tm) : ∀ (l : Lt) (w : World), Md w t l → t.wt ≤ 1048576 →
    Calls Tryz.prog 25 #[.agg #[.int .i64 t.kind, .string t.name, .string t.other, .int .i64 t.n, .int .i64 t.type.kind, .slice l.ta l.tn l.tc, .int .i64 t.res.kind, .slice l.ra l.rn l.rc, .slice l.aa l.an l.ac]] w fun e w' => e = .returned (.bool t.ok) ∧ Below w.heap.size w w' := by
  induction t using Tm.ind' with | h t ih => ?_
  intro l w h hl
  have IH := hide ih
  clear ih
  obtain ⟨h0, ht, hrr, hr⟩ := h.shape
  clear ht hrr
  have H := hide h
  clear h
  have hn : l.an ≤ 1048576 := by
    have := Tm.length_le_wts t.args
    have h1 : l.an = t.args.length := hr.1
    have := t.wt_eq
    omega
  have hall := hide t.ok_eq
  go_enter Tryz.func25, Tryz.ntmps25
  go_wp2_with fail
  go_loopw [3] (fun i wr => ∃ j : Nat, j ≤ l.an ∧ i = .int .i64 j ∧ Hid (∀ i (h : i < t.args.length), i < j → t.args[i].ok = true) ∧ Blk wr w.heap.size 29 #[.int .i64 t.kind, .string t.name, .string t.other, .int .i64 t.n, .int .i64 t.type.kind, .slice l.ta l.tn l.tc, .int .i64 t.res.kind, .slice l.ra l.rn l.rc, .slice l.aa l.an l.ac] ∧ Below w.heap.size w wr) (fun i _ => l.an - (intOf i).toNat)
  case atStart => exact ⟨0, by omega, rfl, fun i _ hi => by omega, Blk.new _ _ _, below_new _ _⟩
  case round =>
    obtain ⟨j, hj, rfl, HR, hB, hb⟩ := hrel
    have hsz := hb.size
    obtain ⟨v0, v1, v2, v3, v4, v5, v6, v7, hcell8⟩ := hB.nine
    by_cases hjn : j < l.an
    · have hjx : j < t.args.length := by rw [← hr.1]; exact hjn
      obtain ⟨b, off, l', ha, hlt, hc, hd⟩ := (hr.below hb).get j hjx
      obtain ⟨e0, e1, e2, e3, e4, e5, e6, e7, e8⟩ := hc.nine
      clear hc
      rw [ha] at hcell8 ⊢
      have hz1 : t.args[j].wt ≤ 1048576 := Tm.wt_arg (List.getElem_mem hjx) hl
      cases hq : t.args[j].ok with
      | true =>
        have C := hide (fun W hW => IH.out _ (List.getElem_mem hjx) l' W hW hz1)
        rw [hq] at C
        replace hq := hide hq
        go_wp2_with (go_at_call 25; (with_reducible refine (C.out _ hd).mono ?_); rintro e w' ⟨rfl, hb'⟩)
        go_roundw
        case rel =>
          refine ⟨j + 1, by omega, by go_num, fun i hi hij => ?_, (by have hB2 := hB.under hb'; rw [ha] at hB2; exact hB2), hb.trans (by repeat (first | exact Below.refl _ _ | refine Below.drew ?_ | refine below_drewN ?_ _ | refine Below.alloc ?_ (by first | omega | (simp; done) | (simp; omega)) _ | refine Below.setCell ?_ (by first | omega | (simp; done) | (simp; omega)) _ | refine Below.trans ?_ (Below.mono hb' (by first | omega | (simp; done) | (simp; omega)))))⟩
          by_cases hij' : i < j
          · exact HR.out i hi hij'
          · obtain rfl : i = j := by omega
            exact hq.out
        case measure => simp [intOf]; omega
      | false =>
        have C := hide (fun W hW => IH.out _ (List.getElem_mem hjx) l' W hW hz1)
        rw [hq] at C
        replace hq := hide hq
        go_wp2_with (go_at_call 25; (with_reducible refine (C.out _ hd).mono ?_); rintro e w' ⟨rfl, hb'⟩)
        go_ret
        refine ⟨ret_bool ?_, hb.trans (by repeat (first | exact Below.refl _ _ | refine Below.drew ?_ | refine below_drewN ?_ _ | refine Below.alloc ?_ (by first | omega | (simp; done) | (simp; omega)) _ | refine Below.setCell ?_ (by first | omega | (simp; done) | (simp; omega)) _ | refine Below.trans ?_ (Below.mono hb' (by first | omega | (simp; done) | (simp; omega)))))⟩
        rw [hall.out, all_no hjx hq.out, Bool.and_false]
    · have h4 : l.an = t.args.length := hr.1
      have hfin : t.ok = nodeS t := by rw [hall.out, all_yes fun i hi => HR.out i hi (by omega), Bool.and_true]
      have hlen : (l.an : Int) = (t.args.length : Int) := by rw [h4]
      have HF := hide (show t.ok = (fieldsS t && ((l.an : Int) == arityS t.kind t.name)) by rw [hfin, nodeS, hlen])
      clear hfin hlen h4 hall
      have C := hide (fun W (hW : Below w.heap.size w W) => l5Fields_any t l W (H.out.below hW) hl)
      cases hf : fieldsS t with
      | false =>
        rw [hf] at C HF
        have hbd : Below w.heap.size w wr.drew := hb.drew
        have hun : undef = Value.tuple #[] := rfl
        go_wp2_with fail
        first | go_region_with (go_at_call 53; (with_reducible refine (C.out _ hbd).mono ?_); rintro e w1 ⟨rfl, b1⟩; have k1 := hbd.trans (b1.mono hbd.size)) | fail
        all_goals clear hun
        all_goals go_wp2_with fail
        all_goals go_ret
        all_goals exact ⟨ret_bool (by rw [HF.out]; rfl), k1⟩
      | true =>
        rw [hf] at C HF
        have hbd : Below w.heap.size w wr.drew := hb.drew
        have hun : undef = Value.tuple #[] := rfl
        go_wp2_with fail
        first | go_region_with (first
          | (go_at_call 53; (with_reducible refine (C.out _ hbd).mono ?_); rintro e w1 ⟨rfl, b1⟩
             have k1 := hbd.trans (b1.mono hbd.size)
             have B1 : Blk w1 _ _ _ := Blk.under (w := wr.drew) hB b1
             obtain ⟨u0, u1, u2, u3, u4, u5, u6, u7, u8⟩ := B1.nine)
          | (go_at_call 54; (with_reducible refine (l5Arity_any t l _).mono ?_); rintro e w2 ⟨rfl, b2⟩
             have k2 := k1.trans (b2.mono k1.size)
             have B2 := B1.under b2
             obtain ⟨p0, p1, p2, p3, p4, p5, p6, p7, p8⟩ := B2.nine)) | fail
        all_goals clear hun
        all_goals go_wp2_with fail
        all_goals go_ret
        all_goals exact ⟨ret_bool (by rw [HF.out]; rfl), k2⟩
end Go.Proofs.YtklifieahcoljaaGreat
