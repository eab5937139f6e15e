/-
  The walk of l5Bent: a drawn term, bent.
-/
import Derived.Test.YtklifieahcoljaaGreatAnyM
namespace Go.Proofs.YtklifieahcoljaaGreat
open Go.RowKit
set_option maxRecDepth 100000
set_option linter.unusedVariables false
set_option linter.unusedSimpArgs false

theorem wt_name (t : Tm) (s : ByteArray) : Tm.wt { t with name := s } ≤ t.wt + s.size := by
  rw [Tm.wt_eq, t.wt_eq]
  dsimp only
  omega
theorem wt_other (t : Tm) (s : ByteArray) : Tm.wt { t with other := s } ≤ t.wt + s.size := by
  rw [Tm.wt_eq, t.wt_eq]
  dsimp only
  omega
theorem wt_kind (t : Tm) (k : Int) : Tm.wt { t with kind := k } = t.wt := by
  rw [Tm.wt_eq, t.wt_eq]
theorem wt_num (t : Tm) (k : Int) : Tm.wt { t with n := k } = t.wt := by
  rw [Tm.wt_eq, t.wt_eq]
theorem wt_type (t : Tm) (u : Ty) : Tm.wt { t with type := u } ≤ t.wt + u.size := by
  have := u.size_eq
  rw [Tm.wt_eq, t.wt_eq]
  dsimp only
  omega
theorem wt_args (t x : Tm) : Tm.wt { t with args := t.args ++ [x] } = t.wt + 1 + x.wt := by
  rw [Tm.wt_eq, t.wt_eq]
  simp only [Tm.wts_append, Tm.wts]
  omega
set_option maxHeartbeats 6400000 in
theorem l5Bent_any (p : Nat) (w : World) (hC : Cur w p) : Calls Tryz.prog 17 #[.pointer (some ⟨p, 0, none⟩)] w (DrawsM p 90100 w) := by
  have hlt := hC.lt
  have d0 := Drew.alloc hC (.cells #[.int .i64 0, .string ⟨#[]⟩, .string ⟨#[]⟩, .int .i64 0, .int .i64 0, .slice none 0 0, .int .i64 0, .slice none 0 0, .slice none 0 0] 29)
  have B0 := Blk.new w 29 #[.int .i64 0, .string ⟨#[]⟩, .string ⟨#[]⟩, .int .i64 0, .int .i64 0, .slice none 0 0, .int .i64 0, .slice none 0 0, .slice none 0 0]
  go_enter Tryz.func17, Tryz.ntmps17
  go_wp2_with fail
  refine (l1Below_any p 4 _ d0.cur (by omega)).mono ?_
  rintro e w1 ⟨y, rfl, y0, -, d1⟩
  have hy : y < 4 := by have := y0 (by omega); omega
  have D1 := d0.trans d1
  have B1 : Blk w1 w.heap.size _ _ := (d1.block B0.lt (by omega)).trans B0
  have CA := l5Any_any p (1 + y) (by omega) w1 D1.cur
  have hbn : bndM (1 + y) ≤ 88100 := by
    have : y = 0 ∨ y = 1 ∨ y = 2 ∨ y = 3 := by omega
    rcases this with rfl | rfl | rfl | rfl <;> decide
  rw [show ((1 + y : Nat) : Int) = 1 + (y : Int) by omega] at CA
  replace CA := hide CA
  go_wp2_with fail
  refine CA.out.mono ?_
  rintro e w2 ⟨t, l, rfl, ho, hs, d2⟩
  have D2 := D1.trans d2
  have B2 : Blk w2 w.heap.size _ _ := (d2.block B1.lt (by omega)).trans B1
  have lB1 := B1.lt
  have lB2 := B2.lt
  have L3 := LaidM.of_own (ho.base (show w.heap.size + 1 ≤ w1.heap.size by omega)) (by omega)
  have D3 := D2.trans (Drew.alloc D2.cur (.cells #[.int .i64 t.kind, .string t.name, .string t.other, .int .i64 t.n, .int .i64 t.type.kind, .slice l.ta l.tn l.tc, .int .i64 t.res.kind, .slice l.ra l.rn l.rc, .slice l.aa l.an l.ac] 29))
  have B3 := B2.alloc (.cells #[.int .i64 t.kind, .string t.name, .string t.other, .int .i64 t.n, .int .i64 t.type.kind, .slice l.ta l.tn l.tc, .int .i64 t.res.kind, .slice l.ra l.rn l.rc, .slice l.aa l.an l.ac] 29)
  clear CA ho
  go_upto_region 2 with fail
  generalize w2.alloc (.cells #[.int .i64 t.kind, .string t.name, .string t.other, .int .i64 t.n, .int .i64 t.type.kind, .slice l.ta l.tn l.tc, .int .i64 t.res.kind, .slice l.ra l.rn l.rc, .slice l.aa l.an l.ac] 29) = w3 at L3 D3 B3 ⊢
  go_wp2_with fail
  refine (l1Below_any p 14 _ D3.cur (by omega)).mono ?_
  rintro e w4 ⟨x, rfl, -, -, d4⟩
  have L6 := L3.keep (d4.fresh (by omega))
  have lB3 := B3.lt
  have B6 : Blk w4 w.heap.size 29 #[.int .i64 0, .string ⟨#[]⟩, .string ⟨#[]⟩, .int .i64 0, .int .i64 0, .slice none 0 0, .int .i64 0, .slice none 0 0, .slice none 0 0] := (d4.block lB3 (by omega)).trans B3
  have D6 := D3.trans d4
  clear L3 B3 D3 d4
  go_upto_block 0 with fail
  go_cut [] (fun wx => (∃ (t : Tm) (l : Lt), LaidM w2.heap.size (w.heap.size + 1) wx t l ∧ t.wt ≤ 90100) ∧ Blk wx w.heap.size 29 #[.int .i64 0, .string ⟨#[]⟩, .string ⟨#[]⟩, .int .i64 0, .int .i64 0, .slice none 0 0, .int .i64 0, .slice none 0 0, .slice none 0 0] ∧ Drew p w wx)
  case first =>
    have lS := L6.lt
    have lB6 := B6.lt
    by_cases k0 : x = 0
    · subst k0
      go_wp2_with fail
      refine (l1Below_any p 15 _ D6.cur (by omega)).mono ?_
      rintro e w5 ⟨k, rfl, hk0, -, d5⟩
      have hk : (k : Int) < 15 := hk0 (by omega)
      have D5 := D6.trans d5
      have L5 := L6.keep (d5.fresh (by omega))
      have B5 : Blk w5 w.heap.size 29 #[.int .i64 0, .string ⟨#[]⟩, .string ⟨#[]⟩, .int .i64 0, .int .i64 0, .slice none 0 0, .int .i64 0, .slice none 0 0, .slice none 0 0] := (d5.block lB6 (by omega)).trans B6
      have c0 := L5.box.cell 0
      have f0 := L5.box.free 0
      go_wp2_with fail
      go_meet
      exact ⟨⟨_, _, L5.kind (k : Int) ⟨by omega, by omega⟩, by rw [wt_kind]; omega⟩, B5.far (p := ⟨w2.heap.size, 0, none⟩) (by simp; omega) _, Drew.store hC D5 (q := ⟨w2.heap.size, 0, none⟩) (by simp; omega) _⟩
    have g0 : ((x : Int) == 0) = false := by simp; omega
    by_cases k1 : x = 1
    · subst k1
      go_wp2_with fail
      have DP := D6.trans (Drew.alloc D6.cur (.cells #[.int .i64 0, .int .i64 1, .int .i64 10006, .int .i64 10007, .int .i64 (-1)] 3))
      refine (l1PickInt_any p w4.heap.size 5 3 _ _ DP.cur (Blk.new w4 _ _) D6.cur.lt rfl (by omega) (by omega) (ints_of [0, 1, 10006, 10007, -1] (by simp [i64]))).mono ?_
      rintro e w5 ⟨k, rfl, hk, -, d5⟩
      have D5 := DP.trans d5
      have L5 := (L6.keep (Fresh.of_below (below_new w4 (.cells #[.int .i64 0, .int .i64 1, .int .i64 10006, .int .i64 10007, .int .i64 (-1)] 3)))).keep (d5.fresh (by omega))
      have lBC := (B6.alloc (.cells #[.int .i64 0, .int .i64 1, .int .i64 10006, .int .i64 10007, .int .i64 (-1)] 3)).lt
      have B5 : Blk w5 w.heap.size 29 #[.int .i64 0, .string ⟨#[]⟩, .string ⟨#[]⟩, .int .i64 0, .int .i64 0, .slice none 0 0, .int .i64 0, .slice none 0 0, .slice none 0 0] := (d5.block lBC (by omega)).trans (B6.alloc _)
      have c3 := L5.box.cell 3
      have f3 := L5.box.free 3
      go_wp2_with fail
      go_meet
      exact ⟨⟨_, _, L5.num k hk, by rw [wt_num]; omega⟩, B5.far (p := ⟨w2.heap.size, 3, none⟩) (by simp; omega) _, Drew.store hC D5 (q := ⟨w2.heap.size, 3, none⟩) (by simp; omega) _⟩
    have g1 : ((x : Int) == 1) = false := by simp; omega
    by_cases k2 : x = 2
    · subst k2
      go_wp2_with fail
      have DP := D6.trans (Drew.alloc D6.cur (.cells #[.string ⟨#[]⟩, .string ⟨#[120]⟩, .string ⟨#[108, 101, 116]⟩, .string ⟨#[97, 98, 99, 100, 101]⟩, .string ⟨#[43]⟩] 9))
      refine (l1Pick_any p w4.heap.size 5 9 _ _ DP.cur (Blk.new w4 _ _) D6.cur.lt rfl (by omega) (by omega) (strs_of [⟨#[]⟩, ⟨#[120]⟩, ⟨#[108, 101, 116]⟩, ⟨#[97, 98, 99, 100, 101]⟩, ⟨#[43]⟩] (by decide))).mono ?_
      rintro e w5 ⟨s, rfl, hs5, -, d5⟩
      have D5 := DP.trans d5
      have L5 := (L6.keep (Fresh.of_below (below_new w4 (.cells #[.string ⟨#[]⟩, .string ⟨#[120]⟩, .string ⟨#[108, 101, 116]⟩, .string ⟨#[97, 98, 99, 100, 101]⟩, .string ⟨#[43]⟩] 9)))).keep (d5.fresh (by omega))
      have lBC := (B6.alloc (.cells #[.string ⟨#[]⟩, .string ⟨#[120]⟩, .string ⟨#[108, 101, 116]⟩, .string ⟨#[97, 98, 99, 100, 101]⟩, .string ⟨#[43]⟩] 9)).lt
      have B5 : Blk w5 w.heap.size 29 #[.int .i64 0, .string ⟨#[]⟩, .string ⟨#[]⟩, .int .i64 0, .int .i64 0, .slice none 0 0, .int .i64 0, .slice none 0 0, .slice none 0 0] := (d5.block lBC (by omega)).trans (B6.alloc _)
      have c1 := L5.box.cell 1
      have f1 := L5.box.free 1
      go_wp2_with fail
      go_meet
      exact ⟨⟨_, _, L5.name s (by omega), by have := wt_name t s; omega⟩, B5.far (p := ⟨w2.heap.size, 1, none⟩) (by simp; omega) _, Drew.store hC D5 (q := ⟨w2.heap.size, 1, none⟩) (by simp; omega) _⟩
    have g2 : ((x : Int) == 2) = false := by simp; omega
    by_cases k3 : x = 3
    · subst k3
      obtain ⟨i0, hi, hz0, hz1, hz2⟩ := info_parts Tryz.infoTerm
      have hB := L6.box
      obtain ⟨hbX, -, hf, cs, f1, f2, f3, h1, h2, hown, h3, hX3, hX1, hX2, hap⟩ := L6
      obtain ⟨m, hm⟩ : ∃ m, m = t.args.length := ⟨_, rfl⟩
      rw [← hm] at hown
      have hmw : m ≤ 88100 := by
        have h1 := Tm.length_le_wts t.args
        have h2 := t.wt_eq
        omega
      have hm' := hide hm
      clear hm
      have HBX := hide hB
      have s8 : w4.cell? ⟨w2.heap.size, 8, none⟩ = some (.slice l.aa l.an l.ac) := hB.cell 8
      go_wp2_with fail
      go_region_law (first
        | (go_simp; go_at_call 42; (with_reducible refine (l5Var_eq ⟨#[120]⟩ _).mono ?_); rintro e w5 ⟨rfl, b1⟩; replace b1 : Below w4.heap.size w4 w5 := below_next (below_drew _) b1; have s1 := b1.size; have B1' := HBX.out.under b1; have y8 := B1'.cell 8; have y8n := fun o => (B1'.alloc o).cell 8)
        | (refine step_append_lies _ (by rfl) _ _ _ (by rfl) (w.heap.size + 1) 29 i0 _ 9 136 Tryz.underlying27 hi hz0 hz1 hz2 rfl (by omega) (.slice l.aa l.an l.ac) m cs (by rfl) ((own_below hown b1).alloc _) ⟨w5.heap.size, 0, none⟩ 1 1 (tcells (leafM 1 0 ⟨#[120]⟩) lt0) (by rfl) (by rfl) (World.news_of_block (cs := #[.int .i64 (leafM 1 0 ⟨#[120]⟩).kind, .string (leafM 1 0 ⟨#[120]⟩).name, .string (leafM 1 0 ⟨#[120]⟩).other, .int .i64 (leafM 1 0 ⟨#[120]⟩).n, .int .i64 (leafM 1 0 ⟨#[120]⟩).type.kind, .slice lt0.ta lt0.tn lt0.tc, .int .i64 (leafM 1 0 ⟨#[120]⟩).res.kind, .slice lt0.ra lt0.rn lt0.rc, .slice lt0.aa lt0.an lt0.ac]) (t := 29) (fr := (0, 0)) (heap_alloc_new w5 _)) (by simp [Value.oneCell', tcells]) (by omega) (by unfold maxLen; omega) (by omega) (by simp; omega) (w5.heap.size + 1) (by simp) ?_; intro gg cap' w6 hown2 hgrow hat hlt6; have hB6 := box_grown (fun g hg => (hap g hg).1) B1' hgrow; have z8 := hB6.cell 8; have x8 := hB6.free 8))
      all_goals
        go_wp2_with fail
        go_meet
        obtain ⟨fx, hx, hxf⟩ := (leafM_own w5.heap.size w5 (k := 1) (n := 0) (nm := ⟨#[120]⟩) (by simp [i64]) (by simp [i64]) (by decide)).rm
        have hXg : ∀ X, X < w.heap.size + 1 → some X ≠ (Value.slice l.aa l.an l.ac).ownBlock := fun X hX e => by have := (hown.lt X e.symm).1; omega
        have H := LaidM.step (t := t) (x := leafM 1 0 ⟨#[120]⟩) (lx := lt0) hbX HBX.out hf hm'.out h1 h2 hown h3 hX3 hX1 hX2 hap (Fresh.of_below b1) hx (fun b hb => by have := hxf b hb; omega) hown2 hgrow rfl (by simpa using hat)
        refine ⟨⟨_, _, H, ?_⟩, ?_, ?_⟩
        · rw [wt_args, leafM_wt]
          have : (⟨#[120]⟩ : ByteArray).size = 1 := rfl
          omega
        · exact (((B6.under b1).alloc _).grown hgrow (hXg _ (by omega))).far (p := ⟨w2.heap.size, 8, none⟩) (by simp; omega) _
        · exact Drew.over hC (D6.next b1) ((((Below.refl _ _).alloc (by omega) _).grown hgrow (by simp; omega) fun k hk => by have := (hown.lt k hk).1; omega).setCell (p := ⟨w2.heap.size, 8, none⟩) (by simp; omega) _)
    have g3 : ((x : Int) == 3) = false := by simp; omega
    by_cases k4 : x = 4
    · subst k4
      go_wp2_with fail
      refine (l3Bent_any p w4 D6.cur).mono ?_
      rintro e w5 ⟨u, v, rfl, ho, hs5, d5⟩
      obtain ⟨ua, un, uc, rfl, -⟩ := ho.rd
      obtain ⟨fp, hT⟩ := ho.tyAt
      have L5 := L6.keep (d5.fresh (by omega))
      have B5 : Blk w5 w.heap.size 29 #[.int .i64 0, .string ⟨#[]⟩, .string ⟨#[]⟩, .int .i64 0, .int .i64 0, .slice none 0 0, .int .i64 0, .slice none 0 0, .slice none 0 0] := (d5.block lB6 (by omega)).trans B6
      have D5 := D6.trans d5
      have c4 := L5.box.cell 4
      have c5 := L5.box.cell 5
      have f4 := L5.box.free 4
      have f5 := L5.box.free 5
      go_wp2_with fail
      go_meet
      have hgg : ∀ g, (Value.slice l.aa l.an l.ac).ownBlock = some g → g < w4.heap.size := fun g hg => by
        obtain ⟨hbX, -, hf, cs, f1, f2, f3, h1, h2, hown, h3, hX3, hX1, hX2, hap⟩ := L6
        exact (hown.lt g hg).2
      refine ⟨⟨_, _, L5.type (fp := fp) ⟨hT.1, fun b hb => by have := hT.2 b hb; omega⟩ (fun h => by have := hT.2 _ h; omega) (fun g hg h => by have := hgg g hg; have := hT.2 _ h; omega), by have := wt_type t u; omega⟩, ?_, ?_⟩
      · exact (B5.far (p := ⟨w2.heap.size, 4, none⟩) (by simp; omega) _).far (p := ⟨w2.heap.size, 5, none⟩) (by simp; omega) _
      · exact Drew.store hC (Drew.store hC D5 (q := ⟨w2.heap.size, 4, none⟩) (by simp; omega) _) (q := ⟨w2.heap.size, 5, none⟩) (by simp; omega) _
    have g4 : ((x : Int) == 4) = false := by simp; omega
    by_cases k5 : x = 5
    · subst k5
      go_wp2_with fail
      have DP := D6.trans (Drew.alloc D6.cur (.cells #[.string ⟨#[120]⟩, .string ⟨#[122]⟩] 9))
      refine (l1Pick_any p w4.heap.size 2 9 _ _ DP.cur (Blk.new w4 _ _) D6.cur.lt rfl (by omega) (by omega) (strs_of [⟨#[120]⟩, ⟨#[122]⟩] (by decide))).mono ?_
      rintro e w5 ⟨s, rfl, hs5, -, d5⟩
      have D5 := DP.trans d5
      have L5 := (L6.keep (Fresh.of_below (below_new w4 (.cells #[.string ⟨#[120]⟩, .string ⟨#[122]⟩] 9)))).keep (d5.fresh (by omega))
      have lBC := (B6.alloc (.cells #[.string ⟨#[120]⟩, .string ⟨#[122]⟩] 9)).lt
      have B5 : Blk w5 w.heap.size 29 #[.int .i64 0, .string ⟨#[]⟩, .string ⟨#[]⟩, .int .i64 0, .int .i64 0, .slice none 0 0, .int .i64 0, .slice none 0 0, .slice none 0 0] := (d5.block lBC (by omega)).trans (B6.alloc _)
      have c2 := L5.box.cell 2
      have f2 := L5.box.free 2
      go_wp2_with fail
      go_meet
      exact ⟨⟨_, _, L5.other s (by omega), by have := wt_other t s; omega⟩, B5.far (p := ⟨w2.heap.size, 2, none⟩) (by simp; omega) _, Drew.store hC D5 (q := ⟨w2.heap.size, 2, none⟩) (by simp; omega) _⟩
    have g5 : ((x : Int) == 5) = false := by simp; omega
    go_wp2_with fail
    go_meet
    exact ⟨⟨t, l, L6, by omega⟩, B6, D6⟩
  case rest =>
  clear L6 B6 D6
  clear hs t l d2
  obtain ⟨⟨t, l, hL, hwt⟩, hR, hD⟩ := hcut
  have hB := hL.box
  obtain ⟨s0, s1, s2, s3, s4, s5, s6, s7, s8⟩ := hB.nine
  obtain ⟨q0, q1, q2, q3, q4, q5, q6, q7, q8⟩ : _ ∧ _ ∧ _ ∧ _ ∧ _ ∧ _ ∧ _ ∧ _ ∧ _ := ⟨hR.cell 0, hR.cell 1, hR.cell 2, hR.cell 3, hR.cell 4, hR.cell 5, hR.cell 6, hR.cell 7, hR.cell 8⟩
  simp at q0 q1 q2 q3 q4 q5 q6 q7 q8
  obtain ⟨z0, z1, z2, z3, z4, z5, z6, z7, z8⟩ : _ ∧ _ ∧ _ ∧ _ ∧ _ ∧ _ ∧ _ ∧ _ ∧ _ := ⟨hR.free 0, hR.free 1, hR.free 2, hR.free 3, hR.free 4, hR.free 5, hR.free 6, hR.free 7, hR.free 8⟩
  go_wp2_with fail
  have HD := DrawsM.mk rfl hC hL.own (by omega) hwt hD
  have HB := (put_box hR rfl t l).nine
  have E := putAt_zero wc w.heap.size t l
  rw [← E]
  obtain ⟨r0, r1, r2, r3, r4, r5, r6, r7, r8⟩ := HB
  refine bodyPost_ret (v := .agg #[.int .i64 t.kind, .string t.name, .string t.other, .int .i64 t.n, .int .i64 t.type.kind, .slice l.ta l.tn l.tc, .int .i64 t.res.kind, .slice l.ra l.rn l.rc, .slice l.aa l.an l.ac]) ?_ rfl HD
  simp [results, Tryz.results17, go_sem, r0, r1, r2, r3, r4, r5, r6, r7, r8]
end Go.Proofs.YtklifieahcoljaaGreat
