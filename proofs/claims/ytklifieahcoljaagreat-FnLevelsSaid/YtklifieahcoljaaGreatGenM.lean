/-
  The walk of l9Gen: a generated term of a type at a level in a context.
-/
import Derived.Test.YtklifieahcoljaaGreatAnyG
namespace Go.Proofs.YtklifieahcoljaaGreat
open Go.RowKit
set_option maxRecDepth 100000
set_option linter.unusedVariables false
set_option linter.unusedSimpArgs false

theorem sixC_set {B b off M i : Nat} {W : World} {v v0 v1 v2 v3 v4 v5 : Value} (h1 : B ≠ M) (h2 : b ≠ M) (h : (W.cell? ⟨B, 0, none⟩ = some v0 ∧ W.cell? ⟨B, 1, none⟩ = some v1) ∧ (W.cell? ⟨b, off, none⟩ = some v2 ∧ W.cell? ⟨b, off + 1, none⟩ = some v3) ∧ (W.cell? ⟨b, off + 2, none⟩ = some v4 ∧ W.cell? ⟨b, off + 2 + 1, none⟩ = some v5)) :
    ((W.setCell ⟨M, i, none⟩ v).cell? ⟨B, 0, none⟩ = some v0 ∧ (W.setCell ⟨M, i, none⟩ v).cell? ⟨B, 1, none⟩ = some v1) ∧ ((W.setCell ⟨M, i, none⟩ v).cell? ⟨b, off, none⟩ = some v2 ∧ (W.setCell ⟨M, i, none⟩ v).cell? ⟨b, off + 1, none⟩ = some v3) ∧ ((W.setCell ⟨M, i, none⟩ v).cell? ⟨b, off + 2, none⟩ = some v4 ∧ (W.setCell ⟨M, i, none⟩ v).cell? ⟨b, off + 2 + 1, none⟩ = some v5) := by
  have e1 : ∀ o, (W.setCell ⟨M, i, none⟩ v).cell? ⟨B, o, none⟩ = W.cell? ⟨B, o, none⟩ := fun o => same_set (p := ⟨M, i, none⟩) h1 v o
  have e2 : ∀ o, (W.setCell ⟨M, i, none⟩ v).cell? ⟨b, o, none⟩ = W.cell? ⟨b, o, none⟩ := fun o => same_set (p := ⟨M, i, none⟩) h2 v o
  rw [e1, e1, e2, e2, e2, e2]
  exact h
theorem bndG_small (d : Nat) : 600 ≤ bndG d := by
  match d with
  | 0 => simp [bndG]
  | 1 => simp [bndG]
  | d + 2 => simp only [bndG]; omega
theorem bndG_le (d : Nat) (h : d ≤ 5) (h2 : 2 ≤ d) : bndG (d - 1) ≤ 200000 := by
  have : d = 2 ∨ d = 3 ∨ d = 4 ∨ d = 5 := by omega
  rcases this with rfl | rfl | rfl | rfl <;> decide

set_option maxHeartbeats 12800000 in
theorem l9Gen_any (p d : Nat) : d ≤ 5 → GenC p (d : Int) d (bndG d) := by
  induction d using Nat.strongRecOn with
  | _ d ih =>
  intro hd5 base xs a n cap t ta tn tc m w hC hpb hbw hctx hn' hT hf hts' hm0 hm1'
  have hbs := bndG_small d
  have hTw := hide hT
  have CA : 2 ≤ d → ∀ (W : World), Drew p w W → Calls Tryz.prog 71 #[.pointer (some ⟨p, 0, none⟩), .slice a n cap, .agg #[.int .i64 t.kind, .slice ta tn tc], .int .i64 m, .int .i64 (d : Int)] W (DrawsM p (bndG d) W) := fun h2 W hd => by
    have G := ih (d - 1) (by omega) (by omega)
    rw [show ((d - 1 : Nat) : Int) = (d : Int) - 1 by omega] at G
    exact l9Any_of p d h2 hd5 (bndG_le d hd5 h2) G base xs a n cap t ta tn tc m W hd.cur hpb (Nat.le_trans hbw hd.size) (hctx.keep (hd.fresh hpb)) hn' (hT.keep (hd.fresh hpb)) hf hts' hm0 hm1'
  have CB : 2 ≤ d → ∀ (W : World), Drew p w W → Calls Tryz.prog 72 #[.pointer (some ⟨p, 0, none⟩), .slice a n cap, .agg #[.int .i64 t.kind, .slice ta tn tc], .int .i64 m, .int .i64 (d : Int)] W (DrawsM p (bndG d) W) := fun h2 W hd => by
    have G := ih (d - 1) (by omega) (by omega)
    rw [show ((d - 1 : Nat) : Int) = (d : Int) - 1 by omega] at G
    exact l9Base_of p d h2 hd5 (bndG_le d hd5 h2) G base xs a n cap t ta tn tc m W hd.cur hpb (Nat.le_trans hbw hd.size) (hctx.keep (hd.fresh hpb)) hn' hm0 hm1'
  have GEN : 2 ≤ d → GenC p ((d : Int) - 1) (d - 1) (bndG (d - 1)) := fun h2 => by
    have G := ih (d - 1) (by omega) (by omega)
    rw [show ((d - 1 : Nat) : Int) = (d : Int) - 1 by omega] at G
    exact G
  replace CA := hide CA
  replace CB := hide CB
  replace GEN := hide GEN
  clear ih
  have hlt := hC.lt
  have d0 := (Drew.alloc hC (.cells #[.int .i64 t.kind, .slice ta tn tc] 26)).trans (Drew.alloc (Drew.alloc hC (.cells #[.int .i64 t.kind, .slice ta tn tc] 26)).cur (.cells #[.int .i64 0, .string ⟨#[]⟩, .string ⟨#[]⟩, .int .i64 0, .int .i64 0, .slice none 0 0, .int .i64 0, .slice none 0 0, .slice none 0 0] 29))
  have T0 := (Blk.new w 26 #[.int .i64 t.kind, .slice ta tn tc]).alloc (.cells #[.int .i64 0, .string ⟨#[]⟩, .string ⟨#[]⟩, .int .i64 0, .int .i64 0, .slice none 0 0, .int .i64 0, .slice none 0 0, .slice none 0 0] 29)
  have B0 := Blk.new2 w (.cells #[.int .i64 t.kind, .slice ta tn tc] 26) 29 #[.int .i64 0, .string ⟨#[]⟩, .string ⟨#[]⟩, .int .i64 0, .int .i64 0, .slice none 0 0, .int .i64 0, .slice none 0 0, .slice none 0 0]
  go_enter Tryz.func49, Tryz.ntmps49
  go_upto_region 1 with fail
  generalize (w.alloc (.cells #[.int .i64 t.kind, .slice ta tn tc] 26)).alloc (.cells #[.int .i64 0, .string ⟨#[]⟩, .string ⟨#[]⟩, .int .i64 0, .int .i64 0, .slice none 0 0, .int .i64 0, .slice none 0 0, .slice none 0 0] 29) = wa at d0 T0 B0 ⊢
  have lT0 := T0.lt
  have lB0 := B0.lt
  go_wp2_with fail
  refine (l1Once_any p 3 _ d0.cur (by omega)).mono ?_
  rintro e W0 ⟨b, rfl, db⟩
  have D0 := d0.trans db
  have T2 : Blk W0 w.heap.size _ _ := (db.block lT0 (by omega)).trans T0
  have B2 : Blk W0 (w.heap.size + 1) _ _ := (db.block lB0 (by omega)).trans B0
  have lT2 := T2.lt
  have lB2 := B2.lt
  clear d0 T0 B0 lT0 lB0 db
  obtain ⟨y0, y1⟩ := T2.two
  have CK := hide (l9Known_any p base xs a n cap t ta tn tc m W0 D0.cur hpb (Nat.le_trans hbw D0.size) (hctx.keep (D0.fresh hpb)) (by omega) (hT.keep (D0.fresh hpb)))
  go_upto_if 16 with fail
  go_cut [] (fun wx => Blk wx w.heap.size 26 #[.int .i64 t.kind, .slice ta tn tc] ∧ Blk wx (w.heap.size + 1) 29 #[.int .i64 0, .string ⟨#[]⟩, .string ⟨#[]⟩, .int .i64 0, .int .i64 0, .slice none 0 0, .int .i64 0, .slice none 0 0, .slice none 0 0] ∧ Drew p w wx)
  case first =>
    cases b with
    | true =>
      go_wp2_with fail
      go_meet
      exact ⟨T2, B2, D0⟩
    | false =>
      go_wp2_with fail
      (with_reducible refine CK.out.mono ?_)
      rintro e w3 ⟨t9, l9, ok, rfl, ho9, hs9, d3⟩
      have B3 : Blk w3 (w.heap.size + 1) 29 #[.int .i64 0, .string ⟨#[]⟩, .string ⟨#[]⟩, .int .i64 0, .int .i64 0, .slice none 0 0, .int .i64 0, .slice none 0 0, .slice none 0 0] := (d3.block lB2 (by omega)).trans B2
      have T3 : Blk w3 w.heap.size _ _ := (d3.block lT2 (by omega)).trans T2
      have lB3 := B3.lt
      have BR := B3.alloc (.cells #[.int .i64 t9.kind, .string t9.name, .string t9.other, .int .i64 t9.n, .int .i64 t9.type.kind, .slice l9.ta l9.tn l9.tc, .int .i64 t9.res.kind, .slice l9.ra l9.rn l9.rc, .slice l9.aa l9.an l9.ac] 29)
      have T4 := T3.alloc (.cells #[.int .i64 t9.kind, .string t9.name, .string t9.other, .int .i64 t9.n, .int .i64 t9.type.kind, .slice l9.ta l9.tn l9.tc, .int .i64 t9.res.kind, .slice l9.ra l9.rn l9.rc, .slice l9.aa l9.an l9.ac] 29)
      have kd : Drew p W0 (w3.alloc (.cells #[.int .i64 t9.kind, .string t9.name, .string t9.other, .int .i64 t9.n, .int .i64 t9.type.kind, .slice l9.ta l9.tn l9.tc, .int .i64 t9.res.kind, .slice l9.ra l9.rn l9.rc, .slice l9.aa l9.an l9.ac] 29)) := d3.next (below_new _ _)
      have s3 := d3.size
      have s0W := D0.size
      have hbx := Blk.new w3 29 #[.int .i64 t9.kind, .string t9.name, .string t9.other, .int .i64 t9.n, .int .i64 t9.type.kind, .slice l9.ta l9.tn l9.tc, .int .i64 t9.res.kind, .slice l9.ra l9.rn l9.rc, .slice l9.aa l9.an l9.ac]
      have ho9' := (ho9.keep (Fresh.of_below (below_new w3 (.cells #[.int .i64 t9.kind, .string t9.name, .string t9.other, .int .i64 t9.n, .int .i64 t9.type.kind, .slice l9.ta l9.tn l9.tc, .int .i64 t9.res.kind, .slice l9.ra l9.rn l9.rc, .slice l9.aa l9.an l9.ac] 29))))
      cases ok with
      | false =>
        go_wp2_with fail
        go_meet
        exact ⟨T4, BR, D0.trans kd⟩
      | true =>
        go_upto_region 4 with fail
        generalize w3.alloc (.cells #[.int .i64 t9.kind, .string t9.name, .string t9.other, .int .i64 t9.n, .int .i64 t9.type.kind, .slice l9.ta l9.tn l9.tc, .int .i64 t9.res.kind, .slice l9.ra l9.rn l9.rc, .slice l9.aa l9.an l9.ac] 29) = w7 at BR T4 kd hbx ho9' ⊢
        obtain ⟨x0, x1, x2, x3, x4, x5, x6, x7, x8⟩ := hbx.nine
        obtain ⟨q0, q1, q2, q3, q4, q5, q6, q7, q8⟩ : _ ∧ _ ∧ _ ∧ _ ∧ _ ∧ _ ∧ _ ∧ _ ∧ _ := ⟨BR.cell 0, BR.cell 1, BR.cell 2, BR.cell 3, BR.cell 4, BR.cell 5, BR.cell 6, BR.cell 7, BR.cell 8⟩
        simp at q0 q1 q2 q3 q4 q5 q6 q7 q8
        obtain ⟨z0, z1, z2, z3, z4, z5, z6, z7, z8⟩ : _ ∧ _ ∧ _ ∧ _ ∧ _ ∧ _ ∧ _ ∧ _ ∧ _ := ⟨BR.free 0, BR.free 1, BR.free 2, BR.free 3, BR.free 4, BR.free 5, BR.free 6, BR.free 7, BR.free 8⟩
        go_wp2_with fail
        have HD : DrawsM p (bndG d) w (.returned (.agg #[.int .i64 t9.kind, .string t9.name, .string t9.other, .int .i64 t9.n, .int .i64 t9.type.kind, .slice l9.ta l9.tn l9.tc, .int .i64 t9.res.kind, .slice l9.ra l9.rn l9.rc, .slice l9.aa l9.an l9.ac])) (putAt w7 (w.heap.size + 1) 0 (tcells t9 l9)) :=
          ⟨t9, l9, rfl, (ho9'.keep (putAt_fresh (by omega) _ _ _)).base (by omega), (by omega), Drew.put hC (D0.trans kd) (by omega) _ _⟩
        have HB := (put_box BR rfl t9 l9).nine
        have E := putAt_zero w7 (w.heap.size + 1) t9 l9
        rw [← E]
        obtain ⟨r0, r1, r2, r3, r4, r5, r6, r7, r8⟩ := HB
        refine bodyPost_ret (v := .agg #[.int .i64 t9.kind, .string t9.name, .string t9.other, .int .i64 t9.n, .int .i64 t9.type.kind, .slice l9.ta l9.tn l9.tc, .int .i64 t9.res.kind, .slice l9.ra l9.rn l9.rc, .slice l9.aa l9.an l9.ac]) ?_ rfl HD
        simp [results, Tryz.results49, go_sem, r0, r1, r2, r3, r4, r5, r6, r7, r8]
  case rest =>
  clear T2 B2 D0 lT2 lB2 y0 y1 CK
  obtain ⟨T2, B2, D0⟩ := hcut
  have lT2 := T2.lt
  have lB2 := B2.lt
  obtain ⟨y0, y1⟩ := T2.two
  have s0W := D0.size
  generalize wc = W0 at *
  have hbW0 : base ≤ W0.heap.size := Nat.le_trans hbw s0W
  have hpW : p < W0.heap.size := by omega
  replace hctx := hctx.keep (D0.fresh hpb)
  replace hT := hT.keep (D0.fresh hpb)
  by_cases hd2 : d < 2
  · have hdd : decide ((d : Int) < 2) = true := by simp; omega
    have CS := hide (l9Small_any p t base ta tn tc m W0 D0.cur hpb hbW0 hT hf (by omega) (by omega) (by omega))
    go_wp2_with fail
    (with_reducible refine CS.out.mono ?_)
    rintro e w7 ⟨t9, l9, rfl, ho9, hs9', kd⟩
    have hs9 : t9.wt ≤ bndG d := by omega
    have BR : Blk w7 (w.heap.size + 1) 29 #[.int .i64 0, .string ⟨#[]⟩, .string ⟨#[]⟩, .int .i64 0, .int .i64 0, .slice none 0 0, .int .i64 0, .slice none 0 0, .slice none 0 0] := (kd.block lB2 (by omega)).trans B2
    obtain ⟨q0, q1, q2, q3, q4, q5, q6, q7, q8⟩ : _ ∧ _ ∧ _ ∧ _ ∧ _ ∧ _ ∧ _ ∧ _ ∧ _ := ⟨BR.cell 0, BR.cell 1, BR.cell 2, BR.cell 3, BR.cell 4, BR.cell 5, BR.cell 6, BR.cell 7, BR.cell 8⟩
    simp at q0 q1 q2 q3 q4 q5 q6 q7 q8
    obtain ⟨z0, z1, z2, z3, z4, z5, z6, z7, z8⟩ : _ ∧ _ ∧ _ ∧ _ ∧ _ ∧ _ ∧ _ ∧ _ ∧ _ := ⟨BR.free 0, BR.free 1, BR.free 2, BR.free 3, BR.free 4, BR.free 5, BR.free 6, BR.free 7, BR.free 8⟩
    go_wp2_with fail
    have HD : DrawsM p (bndG d) w (.returned (.agg #[.int .i64 t9.kind, .string t9.name, .string t9.other, .int .i64 t9.n, .int .i64 t9.type.kind, .slice l9.ta l9.tn l9.tc, .int .i64 t9.res.kind, .slice l9.ra l9.rn l9.rc, .slice l9.aa l9.an l9.ac])) (putAt w7 (w.heap.size + 1) 0 (tcells t9 l9)) :=
      ⟨t9, l9, rfl, (ho9.keep (putAt_fresh (by omega) _ _ _)).base (by omega), hs9, Drew.put hC (D0.trans kd) (by omega) _ _⟩
    have HB := (put_box BR rfl t9 l9).nine
    have E := putAt_zero w7 (w.heap.size + 1) t9 l9
    rw [← E]
    obtain ⟨r0, r1, r2, r3, r4, r5, r6, r7, r8⟩ := HB
    refine bodyPost_ret (v := .agg #[.int .i64 t9.kind, .string t9.name, .string t9.other, .int .i64 t9.n, .int .i64 t9.type.kind, .slice l9.ta l9.tn l9.tc, .int .i64 t9.res.kind, .slice l9.ra l9.rn l9.rc, .slice l9.aa l9.an l9.ac]) ?_ rfl HD
    simp [results, Tryz.results49, go_sem, r0, r1, r2, r3, r4, r5, r6, r7, r8]
  have hdd : decide ((d : Int) < 2) = false := by simp; omega
  go_wp2_with fail
  refine (l1Once_any p 3 _ D0.cur (by omega)).mono ?_
  rintro e Wz ⟨b, rfl, dz⟩
  have D0z := D0.trans dz
  have T2z : Blk Wz w.heap.size _ _ := (dz.block lT2 (by omega)).trans T2
  have B2z : Blk Wz (w.heap.size + 1) _ _ := (dz.block lB2 (by omega)).trans B2
  replace hctx := hctx.keep (dz.fresh hpb)
  replace hT := hT.keep (dz.fresh hpb)
  have sz := dz.size
  have lTz := T2z.lt
  have lBz := B2z.lt
  have hbWz : base ≤ Wz.heap.size := by omega
  have hpWz : p < Wz.heap.size := by omega
  have s0z := D0z.size
  clear y0 y1 T2 B2 D0 lT2 lB2 hbW0 hpW s0W dz
  rename Drew p w Wz => D0
  rename Blk Wz w.heap.size _ _ => T2
  rename Blk Wz (w.heap.size + 1) _ _ => B2
  have lT2 := lTz
  have lB2 := lBz
  have hbW0 := hbWz
  have hpW := hpWz
  have s0W := s0z
  generalize Wz = W0 at *
  obtain ⟨y0, y1⟩ := T2.two
  have h2d : 2 ≤ d := by omega
  cases b with
  | true =>
    have CS := hide (CA.out h2d W0 D0)
    go_wp2_with fail
    (with_reducible refine CS.out.mono ?_)
    rintro e w7 ⟨t9, l9, rfl, ho9, hs9, kd⟩
    have BR : Blk w7 (w.heap.size + 1) 29 #[.int .i64 0, .string ⟨#[]⟩, .string ⟨#[]⟩, .int .i64 0, .int .i64 0, .slice none 0 0, .int .i64 0, .slice none 0 0, .slice none 0 0] := (kd.block lB2 (by omega)).trans B2
    obtain ⟨q0, q1, q2, q3, q4, q5, q6, q7, q8⟩ : _ ∧ _ ∧ _ ∧ _ ∧ _ ∧ _ ∧ _ ∧ _ ∧ _ := ⟨BR.cell 0, BR.cell 1, BR.cell 2, BR.cell 3, BR.cell 4, BR.cell 5, BR.cell 6, BR.cell 7, BR.cell 8⟩
    simp at q0 q1 q2 q3 q4 q5 q6 q7 q8
    obtain ⟨z0, z1, z2, z3, z4, z5, z6, z7, z8⟩ : _ ∧ _ ∧ _ ∧ _ ∧ _ ∧ _ ∧ _ ∧ _ ∧ _ := ⟨BR.free 0, BR.free 1, BR.free 2, BR.free 3, BR.free 4, BR.free 5, BR.free 6, BR.free 7, BR.free 8⟩
    go_wp2_with fail
    have HD : DrawsM p (bndG d) w (.returned (.agg #[.int .i64 t9.kind, .string t9.name, .string t9.other, .int .i64 t9.n, .int .i64 t9.type.kind, .slice l9.ta l9.tn l9.tc, .int .i64 t9.res.kind, .slice l9.ra l9.rn l9.rc, .slice l9.aa l9.an l9.ac])) (putAt w7 (w.heap.size + 1) 0 (tcells t9 l9)) :=
      ⟨t9, l9, rfl, (ho9.keep (putAt_fresh (by omega) _ _ _)).base (by omega), hs9, Drew.put hC (D0.trans kd) (by omega) _ _⟩
    have HB := (put_box BR rfl t9 l9).nine
    have E := putAt_zero w7 (w.heap.size + 1) t9 l9
    rw [← E]
    obtain ⟨r0, r1, r2, r3, r4, r5, r6, r7, r8⟩ := HB
    refine bodyPost_ret (v := .agg #[.int .i64 t9.kind, .string t9.name, .string t9.other, .int .i64 t9.n, .int .i64 t9.type.kind, .slice l9.ta l9.tn l9.tc, .int .i64 t9.res.kind, .slice l9.ra l9.rn l9.rc, .slice l9.aa l9.an l9.ac]) ?_ rfl HD
    simp [results, Tryz.results49, go_sem, r0, r1, r2, r3, r4, r5, r6, r7, r8]
  | false =>
    by_cases k12 : t.kind = 1 ∨ t.kind = 2
    · have CS := hide (CB.out h2d W0 D0)
      have hsw : (t.kind == 1) = true ∨ (t.kind == 1) = false ∧ (t.kind == 2) = true := by
        rcases k12 with k | k
        · exact .inl (by rw [k]; rfl)
        · exact .inr ⟨by rw [k]; rfl, by rw [k]; rfl⟩
      rcases hsw with g1 | ⟨g1, g2⟩
      · clear k12
        go_wp2_with fail
        (with_reducible refine CS.out.mono ?_)
        rintro e w7 ⟨t9, l9, rfl, ho9, hs9, kd⟩
        have BR : Blk w7 (w.heap.size + 1) 29 #[.int .i64 0, .string ⟨#[]⟩, .string ⟨#[]⟩, .int .i64 0, .int .i64 0, .slice none 0 0, .int .i64 0, .slice none 0 0, .slice none 0 0] := (kd.block lB2 (by omega)).trans B2
        obtain ⟨q0, q1, q2, q3, q4, q5, q6, q7, q8⟩ : _ ∧ _ ∧ _ ∧ _ ∧ _ ∧ _ ∧ _ ∧ _ ∧ _ := ⟨BR.cell 0, BR.cell 1, BR.cell 2, BR.cell 3, BR.cell 4, BR.cell 5, BR.cell 6, BR.cell 7, BR.cell 8⟩
        simp at q0 q1 q2 q3 q4 q5 q6 q7 q8
        obtain ⟨z0, z1, z2, z3, z4, z5, z6, z7, z8⟩ : _ ∧ _ ∧ _ ∧ _ ∧ _ ∧ _ ∧ _ ∧ _ ∧ _ := ⟨BR.free 0, BR.free 1, BR.free 2, BR.free 3, BR.free 4, BR.free 5, BR.free 6, BR.free 7, BR.free 8⟩
        go_wp2_with fail
        have HD : DrawsM p (bndG d) w (.returned (.agg #[.int .i64 t9.kind, .string t9.name, .string t9.other, .int .i64 t9.n, .int .i64 t9.type.kind, .slice l9.ta l9.tn l9.tc, .int .i64 t9.res.kind, .slice l9.ra l9.rn l9.rc, .slice l9.aa l9.an l9.ac])) (putAt w7 (w.heap.size + 1) 0 (tcells t9 l9)) :=
          ⟨t9, l9, rfl, (ho9.keep (putAt_fresh (by omega) _ _ _)).base (by omega), hs9, Drew.put hC (D0.trans kd) (by omega) _ _⟩
        have HB := (put_box BR rfl t9 l9).nine
        have E := putAt_zero w7 (w.heap.size + 1) t9 l9
        rw [← E]
        obtain ⟨r0, r1, r2, r3, r4, r5, r6, r7, r8⟩ := HB
        refine bodyPost_ret (v := .agg #[.int .i64 t9.kind, .string t9.name, .string t9.other, .int .i64 t9.n, .int .i64 t9.type.kind, .slice l9.ta l9.tn l9.tc, .int .i64 t9.res.kind, .slice l9.ra l9.rn l9.rc, .slice l9.aa l9.an l9.ac]) ?_ rfl HD
        simp [results, Tryz.results49, go_sem, r0, r1, r2, r3, r4, r5, r6, r7, r8]
      · clear k12
        go_wp2_with fail
        (with_reducible refine CS.out.mono ?_)
        rintro e w7 ⟨t9, l9, rfl, ho9, hs9, kd⟩
        have BR : Blk w7 (w.heap.size + 1) 29 #[.int .i64 0, .string ⟨#[]⟩, .string ⟨#[]⟩, .int .i64 0, .int .i64 0, .slice none 0 0, .int .i64 0, .slice none 0 0, .slice none 0 0] := (kd.block lB2 (by omega)).trans B2
        obtain ⟨q0, q1, q2, q3, q4, q5, q6, q7, q8⟩ : _ ∧ _ ∧ _ ∧ _ ∧ _ ∧ _ ∧ _ ∧ _ ∧ _ := ⟨BR.cell 0, BR.cell 1, BR.cell 2, BR.cell 3, BR.cell 4, BR.cell 5, BR.cell 6, BR.cell 7, BR.cell 8⟩
        simp at q0 q1 q2 q3 q4 q5 q6 q7 q8
        obtain ⟨z0, z1, z2, z3, z4, z5, z6, z7, z8⟩ : _ ∧ _ ∧ _ ∧ _ ∧ _ ∧ _ ∧ _ ∧ _ ∧ _ := ⟨BR.free 0, BR.free 1, BR.free 2, BR.free 3, BR.free 4, BR.free 5, BR.free 6, BR.free 7, BR.free 8⟩
        go_wp2_with fail
        have HD : DrawsM p (bndG d) w (.returned (.agg #[.int .i64 t9.kind, .string t9.name, .string t9.other, .int .i64 t9.n, .int .i64 t9.type.kind, .slice l9.ta l9.tn l9.tc, .int .i64 t9.res.kind, .slice l9.ra l9.rn l9.rc, .slice l9.aa l9.an l9.ac])) (putAt w7 (w.heap.size + 1) 0 (tcells t9 l9)) :=
          ⟨t9, l9, rfl, (ho9.keep (putAt_fresh (by omega) _ _ _)).base (by omega), hs9, Drew.put hC (D0.trans kd) (by omega) _ _⟩
        have HB := (put_box BR rfl t9 l9).nine
        have E := putAt_zero w7 (w.heap.size + 1) t9 l9
        rw [← E]
        obtain ⟨r0, r1, r2, r3, r4, r5, r6, r7, r8⟩ := HB
        refine bodyPost_ret (v := .agg #[.int .i64 t9.kind, .string t9.name, .string t9.other, .int .i64 t9.n, .int .i64 t9.type.kind, .slice l9.ta l9.tn l9.tc, .int .i64 t9.res.kind, .slice l9.ra l9.rn l9.rc, .slice l9.aa l9.an l9.ac]) ?_ rfl HD
        simp [results, Tryz.results49, go_sem, r0, r1, r2, r3, r4, r5, r6, r7, r8]
    have g1 : (t.kind == 1) = false := by simp; omega
    have g2 : (t.kind == 2) = false := by simp; omega
    have hfa : t.formed = true ∧ t.args.all (fun x => x.all Ty.formed) = true := by
      have := hf
      rw [Ty.all_eq, Bool.and_eq_true] at this
      exact this
    have k12' := hide k12
    clear k12
    by_cases k3 : t.kind = 3
    · have g3 : (t.kind == 3) = true := beq_iff_eq.2 k3
      have hx2 : t.args.length = 2 := by
        have h1 := hfa.1
        have h2 := k12'.out
        simp only [Ty.formed] at h1
        simpa [show ¬ t.kind = 1 by omega, show ¬ t.kind = 2 by omega, k3] using (by first | exact h1 | simp_all)
      obtain ⟨x, y, hxa⟩ : ∃ x y, t.args = [x, y] := by
        match t.args, hx2 with
        | [x, y], _ => exact ⟨x, y, rfl⟩
      have hxs : x.size + y.size + 1 = t.size := by
        rw [t.size_eq, hxa]
        simp [Ty.sizes]
        omega
      have hxf : x.all Ty.formed = true ∧ y.all Ty.formed = true := by
        have := hfa.2
        rw [hxa] at this
        simpa using this
      have htn : tn = 2 := by have := TyA.len hTw.out; omega
      subst htn
      obtain ⟨b, off, xa, xn, xc, hta, hgb, hlb, e0, e1, hTx⟩ := hTw.out.get 0 (by omega)
      obtain ⟨b', off', ya, yn, yc, htb, -, -, f0, f1, hTy⟩ := hTw.out.get 1 (by omega)
      rw [hta] at htb
      injection htb with htb
      injection htb with r1 r2
      subst r1 r2
      subst hta
      simp only [hxa, Nat.zero_mul, Nat.add_zero, Nat.one_mul, List.getElem_cons_zero, List.getElem_cons_succ] at e0 e1 f0 f1 hTx hTy
      have hbg := hide (bndG_step d h2d)
      have hbl := bndG_le d hd5 h2d
      have hwr : IntKind.i64.wrap ((d : Int) - 1) = (d : Int) - 1 := IntWalk.i64_in _ (by omega)
      have da := D0.trans (Drew.alloc D0.cur (.cells #[.string ⟨#[120]⟩, .string ⟨#[121]⟩] 9))
      have CP : Hid (Calls Tryz.prog 41 #[.pointer (some ⟨p, 0, none⟩), .slice (some ⟨W0.heap.size, 0, none⟩) 2 2] (W0.alloc (.cells #[.string ⟨#[120]⟩, .string ⟨#[121]⟩] 9)) fun e w' => ∃ z : ByteArray, e = .returned (.string z) ∧ z.size ≤ 100 ∧ Drew p (W0.alloc (.cells #[.string ⟨#[120]⟩, .string ⟨#[121]⟩] 9)) w') :=
        l1Pick_sm p W0.heap.size [⟨#[120]⟩, ⟨#[121]⟩] 100 _ da.cur (Blk.new W0 _ _) hpW (by decide) (by decide)
      clear hfa k12' hxa hx2
      go_wp2_with fail
      (with_reducible refine CP.out.mono ?_)
      rintro e w3 ⟨nm, rfl, hnm, d3⟩
      have k3d := (Drew.alloc D0.cur (.cells #[.string ⟨#[120]⟩, .string ⟨#[121]⟩] 9)).trans d3
      have D3 := D0.trans k3d
      have T3 : Blk w3 w.heap.size _ _ := (k3d.block lT2 (by omega)).trans T2
      have B3 : Blk w3 (w.heap.size + 1) _ _ := (k3d.block lB2 (by omega)).trans B2
      have hctx3 := hctx.keep (k3d.fresh hpb)
      have s3 := k3d.size
      have lT3 := T3.lt
      have lB3 := B3.lt
      have hpW3 : p < w3.heap.size := by omega
      have HK := hide (fun (W : World) (hd : Drew p w3 W) => show (W.cell? ⟨w.heap.size, 0, none⟩ = some (.int .i64 t.kind) ∧ W.cell? ⟨w.heap.size, 1, none⟩ = some (.slice (some ⟨b, off, none⟩) 2 tc)) ∧ (W.cell? ⟨b, off, none⟩ = some (.int .i64 x.kind) ∧ W.cell? ⟨b, off + 1, none⟩ = some (.slice xa xn xc)) ∧ (W.cell? ⟨b, off + 2, none⟩ = some (.int .i64 y.kind) ∧ W.cell? ⟨b, off + 2 + 1, none⟩ = some (.slice ya yn yc)) from
        ⟨Blk.two ((hd.block lT3 (by omega)).trans T3), ⟨(SameB.of_heap ((D3.trans hd).block hlb (by omega)) _).trans e0, (SameB.of_heap ((D3.trans hd).block hlb (by omega)) _).trans e1⟩, ⟨(SameB.of_heap ((D3.trans hd).block hlb (by omega)) _).trans f0, (SameB.of_heap ((D3.trans hd).block hlb (by omega)) _).trans f1⟩⟩)
      have HX := hide (fun (W : World) (hd : Drew p w3 W) => hTx.keep ((D3.trans hd).fresh hpb))
      have HY := hide (fun (W : World) (hd : Drew p w3 W) => hTy.keep ((D3.trans hd).fresh hpb))
      have HR := hide (fun (W : World) (hd : Drew p w3 W) => show Blk W (w.heap.size + 1) 29 #[.int .i64 0, .string ⟨#[]⟩, .string ⟨#[]⟩, .int .i64 0, .int .i64 0, .slice none 0 0, .int .i64 0, .slice none 0 0, .slice none 0 0] from (hd.block lB3 (by omega)).trans B3)
      have CW := hide (fun (W : World) (hd : Drew p w3 W) => l9With_any base xs a n cap nm x xa xn xc m W (hctx3.keep (hd.fresh hpb)) (by omega) hnm ⟨by omega, by omega⟩ (HX.out W hd) (Nat.le_trans (by omega) hd.size))
      have CX := hide (fun (W : World) (a' : Option Addr) (cap' : Nat) (hd : Drew p w3 W) (hc : CtxR base W (xs ++ [⟨nm, x, m⟩]) a' (n + 1) cap') => (GEN.out h2d base (xs ++ [⟨nm, x, m⟩]) a' (n + 1) cap' y ya yn yc m W hd.cur hpb (Nat.le_trans (by omega) hd.size) hc (by omega) (HY.out W hd) hxf.2 (by omega) hm0 (by omega)).mono fun e w' h => DrawsM.low h hd.size)
      have CL := hide (fun (W : World) (hd : Drew p w3 W) (t1 : Tm) (l1 : Lt) (h1 : Md W t1 l1) (w1 : t1.wt ≤ bndG (d - 1)) => (l5Lam_any nm x xa xn xc t1 l1 W (by omega) (HX.out W hd).rd (by have := x.size_eq; omega) h1 (by omega)).mono fun e w' h => h.w (N := bndG d) (by rw [lamM_wt]; have := x.size_eq; have := hbg.out; omega))
      have hne : w.heap.size ≠ w.heap.size + 1 := by omega
      have hnb : b ≠ w.heap.size + 1 := by omega
      have kd : Drew p w3 w3.drew := Drew.of_below D3.cur (below_drew w3)
      clear y0 y1 T2 B2 e0 e1 f0 f1 CP da
      obtain ⟨⟨y0, y1⟩, -, -⟩ := HK.out w3 (Drew.of_below D3.cur (Below.refl _ _))
      go_upto_region 15 with fail
      refine wp_region_noPanic ?_
      refine wp_region_held_drew (S := (fun W => (W.cell? ⟨w.heap.size, 0, none⟩ = some (.int .i64 t.kind) ∧ W.cell? ⟨w.heap.size, 1, none⟩ = some (.slice (some ⟨b, off, none⟩) 2 tc)) ∧ (W.cell? ⟨b, off, none⟩ = some (.int .i64 x.kind) ∧ W.cell? ⟨b, off + 1, none⟩ = some (.slice xa xn xc)) ∧ (W.cell? ⟨b, off + 2, none⟩ = some (.int .i64 y.kind) ∧ W.cell? ⟨b, off + 2 + 1, none⟩ = some (.slice ya yn yc)))) (by kernel_rfl) ?_ (fun hHeld => ?_)
      · (try dsimp only)
        first | (with_reducible exact sixC_set hne hnb (sixC_set hne hnb (sixC_set hne hnb (sixC_set hne hnb (sixC_set hne hnb (sixC_set hne hnb (sixC_set hne hnb (sixC_set hne hnb (sixC_set hne hnb (HK.out _ kd)))))))))) | exact HK.out _ kd
      refine takeW 0 (v := ?_) rfl (by kernel_rfl) (by kernel_rfl) (by kernel_rfl) (fun _ _ _ h => h) (by rfl) (by assumption) ?_ ?_
      rotate_left
      · intro w hSw
        (try dsimp only at hSw)
        go_simp
        (try with_reducible rfl)
      try simp only [Act.put, List.setIfInBounds_toArray, List.set_cons_zero, List.set_cons_succ]
      refine takeW 1 (v := ?_) rfl (by kernel_rfl) (by kernel_rfl) (by kernel_rfl) (fun _ _ _ h => h) (by rfl) (by assumption) ?_ ?_
      rotate_left
      · intro w hSw
        (try dsimp only at hSw)
        go_simp
        (try with_reducible rfl)
      try simp only [Act.put, List.setIfInBounds_toArray, List.set_cons_zero, List.set_cons_succ]
      refine takeW 2 (v := ?_) rfl (by kernel_rfl) (by kernel_rfl) (by kernel_rfl) (fun _ _ _ h => h) (by rfl) (by assumption) ?_ ?_
      rotate_left
      · intro w hSw
        (try dsimp only at hSw)
        go_simp
        (try with_reducible rfl)
      try simp only [Act.put, List.setIfInBounds_toArray, List.set_cons_zero, List.set_cons_succ]
      refine takeW 3 (v := ?_) rfl (by kernel_rfl) (by kernel_rfl) (by kernel_rfl) (fun _ _ _ h => h) (by rfl) (by assumption) ?_ ?_
      rotate_left
      · intro w hSw
        (try dsimp only at hSw)
        go_simp
        (try with_reducible rfl)
      try simp only [Act.put, List.setIfInBounds_toArray, List.set_cons_zero, List.set_cons_succ]
      refine takeW 4 (v := ?_) rfl (by kernel_rfl) (by kernel_rfl) (by kernel_rfl) (fun _ _ _ h => h) (by rfl) (by assumption) ?_ ?_
      rotate_left
      · intro w hSw
        (try dsimp only at hSw)
        go_simp
        (try with_reducible rfl)
      try simp only [Act.put, List.setIfInBounds_toArray, List.set_cons_zero, List.set_cons_succ]
      refine takeW 5 (v := ?_) rfl (by kernel_rfl) (by kernel_rfl) (by kernel_rfl) (fun _ _ _ h => h) (by rfl) (by assumption) ?_ ?_
      rotate_left
      · intro w hSw
        (try dsimp only at hSw)
        go_simp
        (try with_reducible rfl)
      try simp only [Act.put, List.setIfInBounds_toArray, List.set_cons_zero, List.set_cons_succ]
      refine takeW 6 (v := ?_) rfl (by kernel_rfl) (by kernel_rfl) (by kernel_rfl) (fun _ _ _ h => h) (by rfl) (by assumption) ?_ ?_
      rotate_left
      · intro w hSw
        (try dsimp only at hSw)
        go_simp
        (try with_reducible rfl)
      try simp only [Act.put, List.setIfInBounds_toArray, List.set_cons_zero, List.set_cons_succ]
      refine takeW 7 (v := ?_) rfl (by kernel_rfl) (by kernel_rfl) (by kernel_rfl) (fun _ _ _ h => h) (by rfl) (by assumption) ?_ ?_
      rotate_left
      · intro w hSw
        (try dsimp only at hSw)
        go_simp
        (try with_reducible rfl)
      try simp only [Act.put, List.setIfInBounds_toArray, List.set_cons_zero, List.set_cons_succ]
      refine takeW 8 (v := ?_) rfl (by kernel_rfl) (by kernel_rfl) (by kernel_rfl) (fun _ _ _ h => h) (by rfl) (by assumption) ?_ ?_
      rotate_left
      · intro w hSw
        (try dsimp only at hSw)
        go_simp
        (try with_reducible rfl)
      try simp only [Act.put, List.setIfInBounds_toArray, List.set_cons_zero, List.set_cons_succ]
      refine takeW 9 (v := ?_) rfl (by kernel_rfl) (by kernel_rfl) (by kernel_rfl) (fun _ _ _ h => h) (by rfl) (by assumption) ?_ ?_
      rotate_left
      · intro w hSw
        (try dsimp only at hSw)
        go_simp
        (try with_reducible rfl)
      try simp only [Act.put, List.setIfInBounds_toArray, List.set_cons_zero, List.set_cons_succ]
      refine takeW 10 (v := ?_) rfl (by kernel_rfl) (by kernel_rfl) (by kernel_rfl) (fun _ _ _ h => h) (by rfl) (by assumption) ?_ ?_
      rotate_left
      · intro w hSw
        (try dsimp only at hSw)
        go_simp
        (try with_reducible rfl)
      try simp only [Act.put, List.setIfInBounds_toArray, List.set_cons_zero, List.set_cons_succ]
      refine takeW 11 (v := ?_) rfl (by kernel_rfl) (by kernel_rfl) (by kernel_rfl) (fun _ _ _ h => h) (by rfl) (by assumption) ?_ ?_
      rotate_left
      · intro w hSw
        (try dsimp only at hSw)
        go_simp
        (try with_reducible rfl)
      try simp only [Act.put, List.setIfInBounds_toArray, List.set_cons_zero, List.set_cons_succ]
      refine takeW 12 (v := ?_) rfl (by kernel_rfl) (by kernel_rfl) (by kernel_rfl) (fun _ _ _ h => h) (by rfl) (by assumption) ?_ ?_
      rotate_left
      · intro w hSw
        (try dsimp only at hSw)
        go_simp
        (try with_reducible rfl)
      try simp only [Act.put, List.setIfInBounds_toArray, List.set_cons_zero, List.set_cons_succ]
      refine takeW 14 (v := ?_) rfl (by kernel_rfl) (by kernel_rfl) (by kernel_rfl) (fun _ _ _ h => h) (by rfl) (by assumption) ?_ ?_
      rotate_left
      · intro w hSw
        (try dsimp only at hSw)
        go_simp
        (try with_reducible rfl)
      try simp only [Act.put, List.setIfInBounds_toArray, List.set_cons_zero, List.set_cons_succ]
      refine takeW 15 (v := ?_) rfl (by kernel_rfl) (by kernel_rfl) (by kernel_rfl) (fun _ _ _ h => h) (by rfl) (by assumption) ?_ ?_
      rotate_left
      · intro w hSw
        (try dsimp only at hSw)
        go_simp
        (try with_reducible rfl)
      try simp only [Act.put, List.setIfInBounds_toArray, List.set_cons_zero, List.set_cons_succ]
      refine takeW 16 (v := ?_) rfl (by kernel_rfl) (by kernel_rfl) (by kernel_rfl) (fun _ _ _ h => h) (by rfl) (by assumption) ?_ ?_
      rotate_left
      · intro w hSw
        (try dsimp only at hSw)
        go_simp
        (try with_reducible rfl)
      try simp only [Act.put, List.setIfInBounds_toArray, List.set_cons_zero, List.set_cons_succ]
      refine takeW 17 (v := ?_) rfl (by kernel_rfl) (by kernel_rfl) (by kernel_rfl) (fun _ _ _ h => h) (by rfl) (by assumption) ?_ ?_
      rotate_left
      · intro w hSw
        (try dsimp only at hSw)
        go_simp
        (try with_reducible rfl)
      try simp only [Act.put, List.setIfInBounds_toArray, List.set_cons_zero, List.set_cons_succ]
      refine takeW 18 (v := ?_) rfl (by kernel_rfl) (by kernel_rfl) (by kernel_rfl) (fun _ _ _ h => h) (by rfl) (by assumption) ?_ ?_
      rotate_left
      · intro w hSw
        (try dsimp only at hSw)
        go_simp
        (try with_reducible rfl)
      try simp only [Act.put, List.setIfInBounds_toArray, List.set_cons_zero, List.set_cons_succ]
      refine takeW 19 (v := ?_) rfl (by kernel_rfl) (by kernel_rfl) (by kernel_rfl) (fun _ _ _ h => h) (by rfl) (by assumption) ?_ ?_
      rotate_left
      · intro w hSw
        (try dsimp only at hSw)
        go_simp
        (try with_reducible rfl)
      try simp only [Act.put, List.setIfInBounds_toArray, List.set_cons_zero, List.set_cons_succ]
      refine takeW 20 (v := ?_) rfl (by kernel_rfl) (by kernel_rfl) (by kernel_rfl) (fun _ _ _ h => h) (by rfl) (by assumption) ?_ ?_
      rotate_left
      · intro w hSw
        (try dsimp only at hSw)
        go_simp
        (try with_reducible rfl)
      try simp only [Act.put, List.setIfInBounds_toArray, List.set_cons_zero, List.set_cons_succ]
      refine goW 13 rfl (by kernel_rfl) (fun K hK => ?_)
      go_simp
      go_at_call 74; (with_reducible refine (CW.out _ kd).mono ?_); rintro e w4 ⟨a5, c5, rfl, hc5, b4⟩; have kd := kd.next b4
      refine hK.out _ _ ?_ (fun hHeld => ?_)
      · (try dsimp only)
        first | (with_reducible exact sixC_set hne hnb (sixC_set hne hnb (sixC_set hne hnb (sixC_set hne hnb (sixC_set hne hnb (sixC_set hne hnb (sixC_set hne hnb (sixC_set hne hnb (sixC_set hne hnb (HK.out _ kd)))))))))) | exact HK.out _ kd
      clear hK K
      try simp only [Act.put, List.setIfInBounds_toArray, List.set_cons_zero, List.set_cons_succ]
      refine goW 21 rfl (by kernel_rfl) (fun K hK => ?_)
      go_simp
      go_at_call 49; (with_reducible refine (CX.out _ a5 c5 kd hc5).mono ?_); rintro e w6 ⟨t1, l1, rfl, ho1, hs1, d6⟩; have kd := kd.trans d6; have kd6 := kd.size
      refine hK.out _ _ ?_ (fun hHeld => ?_)
      · (try dsimp only)
        first | (with_reducible exact sixC_set hne hnb (sixC_set hne hnb (sixC_set hne hnb (sixC_set hne hnb (sixC_set hne hnb (sixC_set hne hnb (sixC_set hne hnb (sixC_set hne hnb (sixC_set hne hnb (HK.out _ kd)))))))))) | exact HK.out _ kd
      clear hK K
      try simp only [Act.put, List.setIfInBounds_toArray, List.set_cons_zero, List.set_cons_succ]
      refine goW 22 rfl (by kernel_rfl) (fun K hK => ?_)
      go_simp
      go_at_call 73; (with_reducible refine (CL.out w6 kd t1 l1 ho1.md hs1).mono ?_); rintro e w7 ⟨t9, l9, rfl, ho9, hs9, b7⟩; have kd := kd.next b7; have BR := HR.out _ kd; obtain ⟨q0, q1, q2, q3, q4, q5, q6, q7, q8⟩ : _ ∧ _ ∧ _ ∧ _ ∧ _ ∧ _ ∧ _ ∧ _ ∧ _ := ⟨BR.cell 0, BR.cell 1, BR.cell 2, BR.cell 3, BR.cell 4, BR.cell 5, BR.cell 6, BR.cell 7, BR.cell 8⟩; simp at q0 q1 q2 q3 q4 q5 q6 q7 q8; obtain ⟨z0, z1, z2, z3, z4, z5, z6, z7, z8⟩ : _ ∧ _ ∧ _ ∧ _ ∧ _ ∧ _ ∧ _ ∧ _ ∧ _ := ⟨BR.free 0, BR.free 1, BR.free 2, BR.free 3, BR.free 4, BR.free 5, BR.free 6, BR.free 7, BR.free 8⟩
      refine hK.out _ _ ?_ (fun hHeld => ?_)
      · (try dsimp only)
        first | (with_reducible exact sixC_set hne hnb (sixC_set hne hnb (sixC_set hne hnb (sixC_set hne hnb (sixC_set hne hnb (sixC_set hne hnb (sixC_set hne hnb (sixC_set hne hnb (sixC_set hne hnb (HK.out _ kd)))))))))) | exact HK.out _ kd
      clear hK K
      try simp only [Act.put, List.setIfInBounds_toArray, List.set_cons_zero, List.set_cons_succ]
      refine goW 23 rfl (by kernel_rfl) (fun K hK => ?_)
      go_simp
      refine hK.out _ _ ?_ (fun hHeld => ?_)
      · (try dsimp only)
        first | (with_reducible exact sixC_set hne hnb (sixC_set hne hnb (sixC_set hne hnb (sixC_set hne hnb (sixC_set hne hnb (sixC_set hne hnb (sixC_set hne hnb (sixC_set hne hnb (sixC_set hne hnb (HK.out _ kd)))))))))) | exact HK.out _ kd
      clear hK K
      try simp only [Act.put, List.setIfInBounds_toArray, List.set_cons_zero, List.set_cons_succ]
      refine wpAnyH_done (by kernel_rfl) ?_ _
      refine NoPanic.normal ?_
      go_wp2_with fail
      have HD : DrawsM p (bndG d) w (.returned (.agg #[.int .i64 t9.kind, .string t9.name, .string t9.other, .int .i64 t9.n, .int .i64 t9.type.kind, .slice l9.ta l9.tn l9.tc, .int .i64 t9.res.kind, .slice l9.ra l9.rn l9.rc, .slice l9.aa l9.an l9.ac])) (putAt w7 (w.heap.size + 1) 0 (tcells t9 l9)) :=
        ⟨t9, l9, rfl, (ho9.keep (putAt_fresh (by omega) _ _ _)).base (by omega), hs9, Drew.put hC (D3.trans kd) (by omega) _ _⟩
      have HB := (put_box BR rfl t9 l9).nine
      have E := putAt_zero w7 (w.heap.size + 1) t9 l9
      rw [← E]
      obtain ⟨r0, r1, r2, r3, r4, r5, r6, r7, r8⟩ := HB
      refine bodyPost_ret (v := .agg #[.int .i64 t9.kind, .string t9.name, .string t9.other, .int .i64 t9.n, .int .i64 t9.type.kind, .slice l9.ta l9.tn l9.tc, .int .i64 t9.res.kind, .slice l9.ra l9.rn l9.rc, .slice l9.aa l9.an l9.ac]) ?_ rfl HD
      simp [results, Tryz.results49, go_sem, r0, r1, r2, r3, r4, r5, r6, r7, r8]
    have g3 : (t.kind == 3) = false := beq_eq_false_iff_ne.2 k3
    have hx1 : t.args.length = 1 := by
      have h1 := hfa.1
      have h2 := k12'.out
      simp only [Ty.formed] at h1
      simpa [show ¬ t.kind = 1 by omega, show ¬ t.kind = 2 by omega, k3] using (by first | exact h1 | simp_all)
    obtain ⟨x, hxa⟩ := List.length_eq_one_iff.1 hx1
    have hxs : x.size + 1 = t.size := by
      rw [t.size_eq, hxa]
      simp [Ty.sizes]
      omega
    have hxf : x.all Ty.formed = true := by
      have := hfa.2
      rw [hxa] at this
      simpa using this
    have htn : tn = 1 := by have := TyA.len hTw.out; omega
    subst htn
    obtain ⟨b, off, xa, xn, xc, hta, hgb, hlb, e0, e1, hTx⟩ := hTw.out.get 0 (by omega)
    subst hta
    simp only [hxa, Nat.zero_mul, Nat.add_zero, List.getElem_cons_zero] at e0 e1 hTx
    have hbg := hide (bndG_step d h2d)
    have hwr : IntKind.i64.wrap ((d : Int) - 1) = (d : Int) - 1 := IntWalk.i64_in _ (by omega)
    have hwm : IntKind.i64.wrap (m + 1) = m + 1 := IntWalk.i64_in _ (by omega)
    have HC := hide (fun (W : World) (hd : Drew p w W) => show W.cell? ⟨b, off, none⟩ = some (.int .i64 x.kind) ∧ W.cell? ⟨b, off + 1, none⟩ = some (.slice xa xn xc) from ⟨(SameB.of_heap (hd.block hlb (by omega)) _).trans e0, (SameB.of_heap (hd.block hlb (by omega)) _).trans e1⟩)
    have HX := hide (fun (W : World) (hd : Drew p w W) => hTx.keep (hd.fresh hpb))
    have CI := specIsBase_any x _ _ W0 (HX.out W0 D0).rd
    clear e0 e1
    obtain ⟨c0, c1⟩ := HC.out W0 D0
    clear hfa k12' hxa hx1
    go_upto_region 16 with fail
    go_cut [88] (fun s wx => (∃ b : Bool, s = .bool b) ∧ Drew p W0 wx)
    case first =>
      cases hq : x.base with
      | false =>
        rw [hq] at CI
        replace CI := hide CI
        clear hq
        go_wp2_with fail
        (with_reducible refine CI.out.mono ?_)
        rintro e w3 ⟨rfl, b3⟩
        go_wp2_with fail
        go_meet
        exact ⟨⟨_, rfl⟩, Drew.of_below D0.cur b3⟩
      | true =>
        rw [hq] at CI
        replace CI := hide CI
        clear hq
        go_wp2_with fail
        (with_reducible refine CI.out.mono ?_)
        rintro e w3 ⟨rfl, b3⟩
        have D3 := Drew.of_below D0.cur b3
        go_wp2_with fail
        refine (l1Once_any p 4 _ D3.cur (by omega)).mono ?_
        rintro e w4 ⟨ob, rfl, d4⟩
        go_wp2_with fail
        go_meet
        exact ⟨⟨_, rfl⟩, D3.trans d4⟩
    case rest =>
    obtain ⟨⟨ob, rfl⟩, kc⟩ := hcut
    have Dc := D0.trans kc
    have sc := kc.size
    clear c0 c1 y0 y1 CI
    obtain ⟨c0, c1⟩ := HC.out wc Dc
    obtain ⟨y0, y1⟩ := Blk.two ((kc.block lT2 (by omega)).trans T2)
    have hctx2 := hctx.keep (kc.fresh hpb)
    cases ob with
    | true =>
      have CX := hide (GEN.out h2d base xs a n cap x xa xn xc m wc Dc.cur hpb (by omega) hctx2 (by omega) (HX.out wc Dc) hxf (by omega) (by omega) (by omega))
      go_wp2_with fail
      (with_reducible refine CX.out.mono ?_)
      rintro e w6 ⟨t1, l1, rfl, ho1, hs1, d6⟩
      have s6 := d6.size
      have CN := hide ((l5Node_any 13 [t1] (some ⟨w6.heap.size, 0, none⟩) 1 1 _ (by simp [i64]) (Mds_one ho1.md) (by simp only [Tm.wts]; have := bndG_le d hd5 h2d; omega)).mono fun e w' h => h.w (N := bndG d) (by rw [nodeM_wt]; simp only [Tm.wts]; have := hbg.out; omega))
      have B6 : Blk w6 (w.heap.size + 1) 29 #[.int .i64 0, .string ⟨#[]⟩, .string ⟨#[]⟩, .int .i64 0, .int .i64 0, .slice none 0 0, .int .i64 0, .slice none 0 0, .slice none 0 0] := ((kc.trans d6).block (by omega) (by omega)).trans B2
      go_wp2_with fail
      (with_reducible refine CN.out.mono ?_)
      rintro e w7 ⟨t9, l9, rfl, ho9, hs9, b7⟩
      replace ho9 := ho9.base (below_new w6 _).size
      have BR := (B6.alloc (.cells #[.int .i64 t1.kind, .string t1.name, .string t1.other, .int .i64 t1.n, .int .i64 t1.type.kind, .slice l1.ta l1.tn l1.tc, .int .i64 t1.res.kind, .slice l1.ra l1.rn l1.rc, .slice l1.aa l1.an l1.ac] 29)).under b7
      have kd : Drew p W0 w7 := (kc.trans d6).next (below_next (below_new w6 (.cells #[.int .i64 t1.kind, .string t1.name, .string t1.other, .int .i64 t1.n, .int .i64 t1.type.kind, .slice l1.ta l1.tn l1.tc, .int .i64 t1.res.kind, .slice l1.ra l1.rn l1.rc, .slice l1.aa l1.an l1.ac] 29)) b7)
      obtain ⟨q0, q1, q2, q3, q4, q5, q6, q7, q8⟩ : _ ∧ _ ∧ _ ∧ _ ∧ _ ∧ _ ∧ _ ∧ _ ∧ _ := ⟨BR.cell 0, BR.cell 1, BR.cell 2, BR.cell 3, BR.cell 4, BR.cell 5, BR.cell 6, BR.cell 7, BR.cell 8⟩
      simp at q0 q1 q2 q3 q4 q5 q6 q7 q8
      obtain ⟨z0, z1, z2, z3, z4, z5, z6, z7, z8⟩ : _ ∧ _ ∧ _ ∧ _ ∧ _ ∧ _ ∧ _ ∧ _ ∧ _ := ⟨BR.free 0, BR.free 1, BR.free 2, BR.free 3, BR.free 4, BR.free 5, BR.free 6, BR.free 7, BR.free 8⟩
      go_wp2_with fail
      have HD : DrawsM p (bndG d) w (.returned (.agg #[.int .i64 t9.kind, .string t9.name, .string t9.other, .int .i64 t9.n, .int .i64 t9.type.kind, .slice l9.ta l9.tn l9.tc, .int .i64 t9.res.kind, .slice l9.ra l9.rn l9.rc, .slice l9.aa l9.an l9.ac])) (putAt w7 (w.heap.size + 1) 0 (tcells t9 l9)) :=
        ⟨t9, l9, rfl, (ho9.keep (putAt_fresh (by omega) _ _ _)).base (by omega), hs9, Drew.put hC (D0.trans kd) (by omega) _ _⟩
      have HB := (put_box BR rfl t9 l9).nine
      have E := putAt_zero w7 (w.heap.size + 1) t9 l9
      rw [← E]
      obtain ⟨r0, r1, r2, r3, r4, r5, r6, r7, r8⟩ := HB
      refine bodyPost_ret (v := .agg #[.int .i64 t9.kind, .string t9.name, .string t9.other, .int .i64 t9.n, .int .i64 t9.type.kind, .slice l9.ta l9.tn l9.tc, .int .i64 t9.res.kind, .slice l9.ra l9.rn l9.rc, .slice l9.aa l9.an l9.ac]) ?_ rfl HD
      simp [results, Tryz.results49, go_sem, r0, r1, r2, r3, r4, r5, r6, r7, r8]
    | false =>
      have CX := hide (GEN.out h2d base xs a n cap x xa xn xc (m + 1) wc Dc.cur hpb (by omega) hctx2 (by omega) (HX.out wc Dc) hxf (by omega) (by omega) (by omega))
      go_wp2_with fail
      (with_reducible refine CX.out.mono ?_)
      rintro e w6 ⟨t1, l1, rfl, ho1, hs1, d6⟩
      have s6 := d6.size
      have CN := hide ((l5Node_any 10 [t1] (some ⟨w6.heap.size, 0, none⟩) 1 1 _ (by simp [i64]) (Mds_one ho1.md) (by simp only [Tm.wts]; have := bndG_le d hd5 h2d; omega)).mono fun e w' h => h.w (N := bndG d) (by rw [nodeM_wt]; simp only [Tm.wts]; have := hbg.out; omega))
      have B6 : Blk w6 (w.heap.size + 1) 29 #[.int .i64 0, .string ⟨#[]⟩, .string ⟨#[]⟩, .int .i64 0, .int .i64 0, .slice none 0 0, .int .i64 0, .slice none 0 0, .slice none 0 0] := ((kc.trans d6).block (by omega) (by omega)).trans B2
      go_wp2_with fail
      (with_reducible refine CN.out.mono ?_)
      rintro e w7 ⟨t9, l9, rfl, ho9, hs9, b7⟩
      replace ho9 := ho9.base (below_new w6 _).size
      have BR := (B6.alloc (.cells #[.int .i64 t1.kind, .string t1.name, .string t1.other, .int .i64 t1.n, .int .i64 t1.type.kind, .slice l1.ta l1.tn l1.tc, .int .i64 t1.res.kind, .slice l1.ra l1.rn l1.rc, .slice l1.aa l1.an l1.ac] 29)).under b7
      have kd : Drew p W0 w7 := (kc.trans d6).next (below_next (below_new w6 (.cells #[.int .i64 t1.kind, .string t1.name, .string t1.other, .int .i64 t1.n, .int .i64 t1.type.kind, .slice l1.ta l1.tn l1.tc, .int .i64 t1.res.kind, .slice l1.ra l1.rn l1.rc, .slice l1.aa l1.an l1.ac] 29)) b7)
      obtain ⟨q0, q1, q2, q3, q4, q5, q6, q7, q8⟩ : _ ∧ _ ∧ _ ∧ _ ∧ _ ∧ _ ∧ _ ∧ _ ∧ _ := ⟨BR.cell 0, BR.cell 1, BR.cell 2, BR.cell 3, BR.cell 4, BR.cell 5, BR.cell 6, BR.cell 7, BR.cell 8⟩
      simp at q0 q1 q2 q3 q4 q5 q6 q7 q8
      obtain ⟨z0, z1, z2, z3, z4, z5, z6, z7, z8⟩ : _ ∧ _ ∧ _ ∧ _ ∧ _ ∧ _ ∧ _ ∧ _ ∧ _ := ⟨BR.free 0, BR.free 1, BR.free 2, BR.free 3, BR.free 4, BR.free 5, BR.free 6, BR.free 7, BR.free 8⟩
      go_wp2_with fail
      have HD : DrawsM p (bndG d) w (.returned (.agg #[.int .i64 t9.kind, .string t9.name, .string t9.other, .int .i64 t9.n, .int .i64 t9.type.kind, .slice l9.ta l9.tn l9.tc, .int .i64 t9.res.kind, .slice l9.ra l9.rn l9.rc, .slice l9.aa l9.an l9.ac])) (putAt w7 (w.heap.size + 1) 0 (tcells t9 l9)) :=
        ⟨t9, l9, rfl, (ho9.keep (putAt_fresh (by omega) _ _ _)).base (by omega), hs9, Drew.put hC (D0.trans kd) (by omega) _ _⟩
      have HB := (put_box BR rfl t9 l9).nine
      have E := putAt_zero w7 (w.heap.size + 1) t9 l9
      rw [← E]
      obtain ⟨r0, r1, r2, r3, r4, r5, r6, r7, r8⟩ := HB
      refine bodyPost_ret (v := .agg #[.int .i64 t9.kind, .string t9.name, .string t9.other, .int .i64 t9.n, .int .i64 t9.type.kind, .slice l9.ta l9.tn l9.tc, .int .i64 t9.res.kind, .slice l9.ra l9.rn l9.rc, .slice l9.aa l9.an l9.ac]) ?_ rfl HD
      simp [results, Tryz.results49, go_sem, r0, r1, r2, r3, r4, r5, r6, r7, r8]

end Go.Proofs.YtklifieahcoljaaGreat
