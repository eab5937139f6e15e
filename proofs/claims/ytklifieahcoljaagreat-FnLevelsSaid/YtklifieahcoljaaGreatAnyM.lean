/-
  The walk of l5Any: a drawn term that need not have a type.
-/
import Derived.Test.YtklifieahcoljaaGreatLayM
import Derived.Test.YtklifieahcoljaaGreatArM
import Derived.Deep.DeepCutAuto
import Derived.Deep.CutBlock
namespace Go.Proofs.YtklifieahcoljaaGreat
open Go.RowKit
set_option maxRecDepth 100000
set_option linter.unusedVariables false
set_option linter.unusedSimpArgs false

theorem strs_of (xs : List ByteArray) (h : ∀ x ∈ xs, x.size ≤ 1000) : ∀ j (hj : j < (xs.map Value.string).toArray.size), ∃ z : ByteArray, (xs.map Value.string).toArray[j] = .string z ∧ z.size ≤ 1000 := by
  intro j hj
  have hj' : j < xs.length := by simpa using hj
  exact ⟨xs[j], by simp, h _ (List.getElem_mem _)⟩
theorem ints_of (xs : List Int) (h : ∀ x ∈ xs, i64 x) : ∀ j (hj : j < (xs.map (Value.int .i64)).toArray.size), ∃ z : Int, (xs.map (Value.int .i64)).toArray[j] = .int .i64 z ∧ i64 z := by
  intro j hj
  have hj' : j < xs.length := by simpa using hj
  exact ⟨xs[j], by simp, h _ (List.getElem_mem _)⟩
theorem arityS_le (k : Int) (nm : ByteArray) : arityS k nm ≤ 3 ∧ -1 ≤ arityS k nm := by
  unfold arityS opArity
  repeat' split
  all_goals omega
/-- How heavy a drawn term of a depth may be. -/
def bndM : Nat → Nat
  | 0 => 2200
  | 1 => 2200
  | d + 2 => 2200 + 3 * (1 + bndM (d + 1))
theorem bndM_leaf (d : Nat) : 1000 ≤ bndM d := by
  match d with
  | 0 => simp [bndM]
  | 1 => simp [bndM]
  | d + 2 => simp only [bndM]; omega
theorem bndM_step (d : Nat) (h : 2 ≤ d) : bndM d = 2200 + 3 * (1 + bndM (d - 1)) := by
  match d, h with
  | d + 2, _ => simp only [bndM]; rfl
theorem wt_snoc (t x : Tm) (xs : List Tm) : Tm.wt { t with args := xs ++ [x] } = Tm.wt { t with args := xs } + 1 + x.wt := by
  rw [Tm.wt_eq, Tm.wt_eq]
  simp only [Tm.wts_append, Tm.wts]
  omega

set_option maxHeartbeats 6400000 in
theorem l5Any_any (p : Nat) (d : Nat) : d ≤ 8 → ∀ w, Cur w p → Calls Tryz.prog 39 #[.pointer (some ⟨p, 0, none⟩), .int .i64 (d : Int)] w (DrawsM p (bndM d) w) := by
  induction d using Nat.strongRecOn with
  | _ d ih =>
    intro hd8 w hC
    have hlt := hC.lt
    have d0 := Drew.alloc hC (.cells #[.int .i64 0, .string ⟨#[]⟩, .string ⟨#[]⟩, .int .i64 0, .int .i64 0, .slice none 0 0, .int .i64 0, .slice none 0 0, .slice none 0 0] 29)
    have B0 := Blk.new w 29 #[.int .i64 0, .string ⟨#[]⟩, .string ⟨#[]⟩, .int .i64 0, .int .i64 0, .slice none 0 0, .int .i64 0, .slice none 0 0, .slice none 0 0]
    have leaf : ∀ (W : World), Blk W w.heap.size 29 #[.int .i64 0, .string ⟨#[]⟩, .string ⟨#[]⟩, .int .i64 0, .int .i64 0, .slice none 0 0, .int .i64 0, .slice none 0 0, .slice none 0 0] → Drew p w W → Calls Tryz.prog 65 #[.pointer (some ⟨p, 0, none⟩)] W fun e w' => ∃ (t : Tm) (l : Lt), e = .returned (.agg #[.int .i64 t.kind, .string t.name, .string t.other, .int .i64 t.n, .int .i64 t.type.kind, .slice l.ta l.tn l.tc, .int .i64 t.res.kind, .slice l.ra l.rn l.rc, .slice l.aa l.an l.ac]) ∧ OwnM (w.heap.size + 1) w' t l ∧ t.wt ≤ bndM d ∧ Drew p w w' ∧ Blk w' w.heap.size 29 #[.int .i64 0, .string ⟨#[]⟩, .string ⟨#[]⟩, .int .i64 0, .int .i64 0, .slice none 0 0, .int .i64 0, .slice none 0 0, .slice none 0 0] := by
      intro W hB hD
      refine (l5Leaf_any p W hD.cur).mono ?_
      rintro e w' ⟨t, l, rfl, ho, hs, hd⟩
      have hl := hB.lt
      exact ⟨t, l, rfl, ho.base (by omega), Nat.le_trans hs (bndM_leaf d), hD.trans hd, (hd.block hl (by omega)).trans hB⟩
    replace leaf := hide leaf
    by_cases h2 : d < 2
    · have hd : decide ((d : Int) < 2) = true := by simp; omega
      clear ih
      go_enter Tryz.func39, Tryz.ntmps39
      go_wp2_with fail
      refine (leaf.out _ B0 d0).mono ?_
      rintro e w1 ⟨t, l, rfl, ho, hs, D1, B1⟩
      obtain ⟨q0, q1, q2, q3, q4, q5, q6, q7, q8⟩ : _ ∧ _ ∧ _ ∧ _ ∧ _ ∧ _ ∧ _ ∧ _ ∧ _ := ⟨B1.cell 0, B1.cell 1, B1.cell 2, B1.cell 3, B1.cell 4, B1.cell 5, B1.cell 6, B1.cell 7, B1.cell 8⟩
      simp at q0 q1 q2 q3 q4 q5 q6 q7 q8
      obtain ⟨z0, z1, z2, z3, z4, z5, z6, z7, z8⟩ : _ ∧ _ ∧ _ ∧ _ ∧ _ ∧ _ ∧ _ ∧ _ ∧ _ := ⟨B1.free 0, B1.free 1, B1.free 2, B1.free 3, B1.free 4, B1.free 5, B1.free 6, B1.free 7, B1.free 8⟩
      go_wp2_with fail
      have HD := DrawsM.mk rfl hC ho (by omega) hs D1
      have HB := (put_box B1 rfl t l).nine
      have E := putAt_zero w1 w.heap.size t l
      rw [← E]
      obtain ⟨r0, r1, r2, r3, r4, r5, r6, r7, r8⟩ := HB
      refine bodyPost_ret (v := .agg #[.int .i64 t.kind, .string t.name, .string t.other, .int .i64 t.n, .int .i64 t.type.kind, .slice l.ta l.tn l.tc, .int .i64 t.res.kind, .slice l.ra l.rn l.rc, .slice l.aa l.an l.ac]) ?_ rfl HD
      simp [results, Tryz.results39, go_sem, r0, r1, r2, r3, r4, r5, r6, r7, r8]
    · have IH := ih (d - 1) (by omega) (by omega)
      have hd : decide ((d : Int) < 2) = false := by simp; omega
      have hcast : ((d - 1 : Nat) : Int) = (d : Int) - 1 := by omega
      have hbnd := bndM_step d (by omega)
      rw [hcast] at IH
      have HI := hide IH
      replace hbnd := hide hbnd
      clear ih IH hcast
      go_enter Tryz.func39, Tryz.ntmps39
      go_wp2_with fail
      refine (l1Once_any p 5 _ d0.cur (by omega)).mono ?_
      rintro e w1 ⟨b, rfl, d1⟩
      have D1 := d0.trans d1
      have B1 : Blk w1 w.heap.size _ _ := (d1.block B0.lt (by omega)).trans B0
      cases b with
      | true =>
        go_wp2_with fail
        refine (leaf.out _ B1 D1).mono ?_
        clear D1 B1 d1
        rintro e w1 ⟨t, l, rfl, ho, hs, D1, B1⟩
        obtain ⟨q0, q1, q2, q3, q4, q5, q6, q7, q8⟩ : _ ∧ _ ∧ _ ∧ _ ∧ _ ∧ _ ∧ _ ∧ _ ∧ _ := ⟨B1.cell 0, B1.cell 1, B1.cell 2, B1.cell 3, B1.cell 4, B1.cell 5, B1.cell 6, B1.cell 7, B1.cell 8⟩
        simp at q0 q1 q2 q3 q4 q5 q6 q7 q8
        obtain ⟨z0, z1, z2, z3, z4, z5, z6, z7, z8⟩ : _ ∧ _ ∧ _ ∧ _ ∧ _ ∧ _ ∧ _ ∧ _ ∧ _ := ⟨B1.free 0, B1.free 1, B1.free 2, B1.free 3, B1.free 4, B1.free 5, B1.free 6, B1.free 7, B1.free 8⟩
        go_wp2_with fail
        have HD := DrawsM.mk rfl hC ho (by omega) hs D1
        have HB := (put_box B1 rfl t l).nine
        have E := putAt_zero w1 w.heap.size t l
        rw [← E]
        obtain ⟨r0, r1, r2, r3, r4, r5, r6, r7, r8⟩ := HB
        refine bodyPost_ret (v := .agg #[.int .i64 t.kind, .string t.name, .string t.other, .int .i64 t.n, .int .i64 t.type.kind, .slice l.ta l.tn l.tc, .int .i64 t.res.kind, .slice l.ra l.rn l.rc, .slice l.aa l.an l.ac]) ?_ rfl HD
        simp [results, Tryz.results39, go_sem, r0, r1, r2, r3, r4, r5, r6, r7, r8]
      | false =>
        clear leaf
        have D2 := D1.trans (Drew.alloc D1.cur (.cells #[.int .i64 4, .int .i64 5, .int .i64 6, .int .i64 7, .int .i64 8, .int .i64 9, .int .i64 10, .int .i64 11, .int .i64 12, .int .i64 13, .int .i64 10, .int .i64 4] 3))
        go_wp2_with fail
        refine (l1PickInt_any p w1.heap.size 12 3 _ _ D2.cur (Blk.new w1 _ _) D1.cur.lt rfl (by omega) (by omega) (ints_of [4, 5, 6, 7, 8, 9, 10, 11, 12, 13, 10, 4] (by simp [i64]))).mono ?_
        rintro e w2 ⟨z, rfl, hz, -, d3⟩
        have D3 := D2.trans d3
        have B3 : Blk w2 w.heap.size _ _ := (d3.block (by have := B1.lt; simp; omega) (by omega)).trans (B1.alloc _)
        have s3 := D3.size
        have L4 : LaidM w2.heap.size (w.heap.size + 1) (w2.alloc (.cells #[.int .i64 z, .string ⟨#[]⟩, .string ⟨#[]⟩, .int .i64 0, .int .i64 0, .slice none 0 0, .int .i64 0, .slice none 0 0, .slice none 0 0] 29)) (leafM z 0 ⟨#[]⟩) lt0 :=
          LaidM.new (by have := B3.lt; omega) (Blk.new w2 _ _) ⟨hz, by simp [leafM, i64], by simp [leafM, ByteArray.size], by simp [leafM, ByteArray.size]⟩ rfl rfl rfl
        have D4 := D3.trans (Drew.alloc D3.cur (.cells #[.int .i64 z, .string ⟨#[]⟩, .string ⟨#[]⟩, .int .i64 0, .int .i64 0, .slice none 0 0, .int .i64 0, .slice none 0 0, .slice none 0 0] 29))
        have B4 := B3.alloc (.cells #[.int .i64 z, .string ⟨#[]⟩, .string ⟨#[]⟩, .int .i64 0, .int .i64 0, .slice none 0 0, .int .i64 0, .slice none 0 0, .slice none 0 0] 29)
        have lB3 := B3.lt
        go_upto_block 0 with fail
        generalize w2.alloc (.cells #[.int .i64 z, .string ⟨#[]⟩, .string ⟨#[]⟩, .int .i64 0, .int .i64 0, .slice none 0 0, .int .i64 0, .slice none 0 0, .slice none 0 0] 29) = W4 at L4 D4 B4 ⊢
        have HL4 := hide L4.box
        have v0 := HL4.out.cell 0
        go_cut [] (fun wx => (∃ t : Tm, LaidM w2.heap.size (w.heap.size + 1) wx t lt0 ∧ t.args = [] ∧ t.type = ty0 ∧ t.res = ty0 ∧ t.other.size = 0 ∧ t.name.size ≤ 1000) ∧ Blk wx w.heap.size 29 #[.int .i64 0, .string ⟨#[]⟩, .string ⟨#[]⟩, .int .i64 0, .int .i64 0, .slice none 0 0, .int .i64 0, .slice none 0 0, .slice none 0 0] ∧ Drew p w wx)
        case first =>
          have lB4 := B4.lt
          by_cases k4 : z = 4
          · subst k4
            go_wp2_with fail
            have DAw5 := D4.trans (Drew.alloc D4.cur (.cells #[.string ⟨#[43]⟩, .string ⟨#[45]⟩, .string ⟨#[42]⟩, .string ⟨#[61]⟩, .string ⟨#[60]⟩, .string ⟨#[38]⟩, .string ⟨#[124]⟩, .string ⟨#[33]⟩] 9))
            refine (l1Pick_any p W4.heap.size 8 9 _ _ DAw5.cur (Blk.new W4 _ _) D4.cur.lt rfl (by omega) (by omega) (strs_of [⟨#[43]⟩, ⟨#[45]⟩, ⟨#[42]⟩, ⟨#[61]⟩, ⟨#[60]⟩, ⟨#[38]⟩, ⟨#[124]⟩, ⟨#[33]⟩] (by decide))).mono ?_
            rintro e w5 ⟨nm, rfl, hnm, -, dw5⟩
            have Dw5 := DAw5.trans dw5
            have Lw5 := (L4.keep (Fresh.of_below (below_new W4 (.cells #[.string ⟨#[43]⟩, .string ⟨#[45]⟩, .string ⟨#[42]⟩, .string ⟨#[61]⟩, .string ⟨#[60]⟩, .string ⟨#[38]⟩, .string ⟨#[124]⟩, .string ⟨#[33]⟩] 9)))).keep (dw5.fresh (by omega))
            have lw5 := (B4.alloc (.cells #[.string ⟨#[43]⟩, .string ⟨#[45]⟩, .string ⟨#[42]⟩, .string ⟨#[61]⟩, .string ⟨#[60]⟩, .string ⟨#[38]⟩, .string ⟨#[124]⟩, .string ⟨#[33]⟩] 9)).lt
            have Bw5 : Blk w5 w.heap.size 29 #[.int .i64 0, .string ⟨#[]⟩, .string ⟨#[]⟩, .int .i64 0, .int .i64 0, .slice none 0 0, .int .i64 0, .slice none 0 0, .slice none 0 0] := (dw5.block lw5 (by omega)).trans (B4.alloc _)
            have cw5 := Lw5.box.cell 1
            have fw5 := Lw5.box.free 1
            go_wp2_with fail
            go_meet
            exact ⟨⟨_, Lw5.name nm (by omega), rfl, rfl, rfl, rfl, hnm⟩, Bw5.far (p := ⟨w2.heap.size, 1, none⟩) (by simp; omega) _, Drew.store hC Dw5 (q := ⟨w2.heap.size, 1, none⟩) (by simp; omega) _⟩
          have g4 : (z == 4) = false := beq_eq_false_iff_ne.2 k4
          by_cases k6 : z = 6
          · subst k6
            go_wp2_with fail
            have DAw5 := D4.trans (Drew.alloc D4.cur (.cells #[.string ⟨#[120]⟩, .string ⟨#[121]⟩, .string ⟨#[102]⟩] 9))
            refine (l1Pick_any p W4.heap.size 3 9 _ _ DAw5.cur (Blk.new W4 _ _) D4.cur.lt rfl (by omega) (by omega) (strs_of [⟨#[120]⟩, ⟨#[121]⟩, ⟨#[102]⟩] (by decide))).mono ?_
            rintro e w5 ⟨nm, rfl, hnm, -, dw5⟩
            have Dw5 := DAw5.trans dw5
            have Lw5 := (L4.keep (Fresh.of_below (below_new W4 (.cells #[.string ⟨#[120]⟩, .string ⟨#[121]⟩, .string ⟨#[102]⟩] 9)))).keep (dw5.fresh (by omega))
            have lw5 := (B4.alloc (.cells #[.string ⟨#[120]⟩, .string ⟨#[121]⟩, .string ⟨#[102]⟩] 9)).lt
            have Bw5 : Blk w5 w.heap.size 29 #[.int .i64 0, .string ⟨#[]⟩, .string ⟨#[]⟩, .int .i64 0, .int .i64 0, .slice none 0 0, .int .i64 0, .slice none 0 0, .slice none 0 0] := (dw5.block lw5 (by omega)).trans (B4.alloc _)
            have cw5 := Lw5.box.cell 1
            have fw5 := Lw5.box.free 1
            go_wp2_with fail
            go_meet
            exact ⟨⟨_, Lw5.name nm (by omega), rfl, rfl, rfl, rfl, hnm⟩, Bw5.far (p := ⟨w2.heap.size, 1, none⟩) (by simp; omega) _, Drew.store hC Dw5 (q := ⟨w2.heap.size, 1, none⟩) (by simp; omega) _⟩
          have g6 : (z == 6) = false := beq_eq_false_iff_ne.2 k6
          by_cases k8 : z = 8
          · subst k8
            go_wp2_with fail
            have DAw5 := D4.trans (Drew.alloc D4.cur (.cells #[.string ⟨#[120]⟩, .string ⟨#[121]⟩, .string ⟨#[102]⟩] 9))
            refine (l1Pick_any p W4.heap.size 3 9 _ _ DAw5.cur (Blk.new W4 _ _) D4.cur.lt rfl (by omega) (by omega) (strs_of [⟨#[120]⟩, ⟨#[121]⟩, ⟨#[102]⟩] (by decide))).mono ?_
            rintro e w5 ⟨nm, rfl, hnm, -, dw5⟩
            have Dw5 := DAw5.trans dw5
            have Lw5 := (L4.keep (Fresh.of_below (below_new W4 (.cells #[.string ⟨#[120]⟩, .string ⟨#[121]⟩, .string ⟨#[102]⟩] 9)))).keep (dw5.fresh (by omega))
            have lw5 := (B4.alloc (.cells #[.string ⟨#[120]⟩, .string ⟨#[121]⟩, .string ⟨#[102]⟩] 9)).lt
            have Bw5 : Blk w5 w.heap.size 29 #[.int .i64 0, .string ⟨#[]⟩, .string ⟨#[]⟩, .int .i64 0, .int .i64 0, .slice none 0 0, .int .i64 0, .slice none 0 0, .slice none 0 0] := (dw5.block lw5 (by omega)).trans (B4.alloc _)
            have cw5 := Lw5.box.cell 1
            have fw5 := Lw5.box.free 1
            go_wp2_with fail
            go_meet
            exact ⟨⟨_, Lw5.name nm (by omega), rfl, rfl, rfl, rfl, hnm⟩, Bw5.far (p := ⟨w2.heap.size, 1, none⟩) (by simp; omega) _, Drew.store hC Dw5 (q := ⟨w2.heap.size, 1, none⟩) (by simp; omega) _⟩
          have g8 : (z == 8) = false := beq_eq_false_iff_ne.2 k8
          by_cases k9 : z = 9
          · subst k9
            go_wp2_with fail
            have DAw5 := D4.trans (Drew.alloc D4.cur (.cells #[.string ⟨#[120]⟩, .string ⟨#[121]⟩, .string ⟨#[102]⟩] 9))
            refine (l1Pick_any p W4.heap.size 3 9 _ _ DAw5.cur (Blk.new W4 _ _) D4.cur.lt rfl (by omega) (by omega) (strs_of [⟨#[120]⟩, ⟨#[121]⟩, ⟨#[102]⟩] (by decide))).mono ?_
            rintro e w5 ⟨nm, rfl, hnm, -, dw5⟩
            have Dw5 := DAw5.trans dw5
            have Lw5 := (L4.keep (Fresh.of_below (below_new W4 (.cells #[.string ⟨#[120]⟩, .string ⟨#[121]⟩, .string ⟨#[102]⟩] 9)))).keep (dw5.fresh (by omega))
            have lw5 := (B4.alloc (.cells #[.string ⟨#[120]⟩, .string ⟨#[121]⟩, .string ⟨#[102]⟩] 9)).lt
            have Bw5 : Blk w5 w.heap.size 29 #[.int .i64 0, .string ⟨#[]⟩, .string ⟨#[]⟩, .int .i64 0, .int .i64 0, .slice none 0 0, .int .i64 0, .slice none 0 0, .slice none 0 0] := (dw5.block lw5 (by omega)).trans (B4.alloc _)
            have cw5 := Lw5.box.cell 1
            have fw5 := Lw5.box.free 1
            go_wp2_with fail
            go_meet
            exact ⟨⟨_, Lw5.name nm (by omega), rfl, rfl, rfl, rfl, hnm⟩, Bw5.far (p := ⟨w2.heap.size, 1, none⟩) (by simp; omega) _, Drew.store hC Dw5 (q := ⟨w2.heap.size, 1, none⟩) (by simp; omega) _⟩
          have g9 : (z == 9) = false := beq_eq_false_iff_ne.2 k9
          go_wp2_with fail
          go_meet
          exact ⟨⟨_, L4, rfl, rfl, rfl, rfl, Nat.zero_le _⟩, B4, D4⟩
        case rest =>
        clear L4 D4 B4 HL4 v0
        obtain ⟨⟨t, LA, ea, et, er, eo, en⟩, BA, DA⟩ := hcut
        have s0 := LA.box.cell 0
        have lBA := BA.lt
        have draw2 := hide (l3Draw_any p 2 (by omega) wc DA.cur)
        go_upto_region 11 with fail
        go_cut [43] (fun s wx => s = .bool (t.kind == 6 || t.kind == 9) ∧ wx = wc)
        case first =>
          by_cases k6 : t.kind = 6
          · have g6 : (t.kind == 6) = true := beq_iff_eq.2 k6
            go_wp2_with fail
            go_meet
            exact ⟨by rw [g6]; rfl, rfl⟩
          · have g6 : (t.kind == 6) = false := beq_eq_false_iff_ne.2 k6
            go_wp2_with fail
            go_meet
            exact ⟨by rw [g6]; rfl, rfl⟩
        case rest =>
        obtain ⟨rfl, rfl⟩ := hcut
        go_upto_if 43 with fail
        go_cut [] (fun wx => (∃ (t : Tm) (l : Lt), LaidM w2.heap.size (w.heap.size + 1) wx t l ∧ t.args = [] ∧ t.type.size ≤ 3 ∧ t.res = ty0 ∧ t.other.size = 0 ∧ t.name.size ≤ 1000 ∧ Value.slice l.aa l.an l.ac = .slice none 0 0) ∧ Blk wx w.heap.size 29 #[.int .i64 0, .string ⟨#[]⟩, .string ⟨#[]⟩, .int .i64 0, .int .i64 0, .slice none 0 0, .int .i64 0, .slice none 0 0, .slice none 0 0] ∧ Drew p w wx)
        case first =>
          generalize (t.kind == 6 || t.kind == 9) = c69
          cases c69 with
          | true =>
            go_wp2_with fail
            refine draw2.out.mono ?_
            rintro e w5 ⟨u, v, rfl, ho, hs, d5⟩
            obtain ⟨ua, un, uc, rfl, -⟩ := ho.rd
            obtain ⟨fp, hT⟩ := ho.tyAt
            have lS := LA.lt
            have L5 := LA.keep (d5.fresh (by omega))
            have B5 : Blk w5 w.heap.size 29 #[.int .i64 0, .string ⟨#[]⟩, .string ⟨#[]⟩, .int .i64 0, .int .i64 0, .slice none 0 0, .int .i64 0, .slice none 0 0, .slice none 0 0] := (d5.block lBA (by omega)).trans BA
            have D5 := DA.trans d5
            have c4 := L5.box.cell 4
            have c5 := L5.box.cell 5
            have f4 := L5.box.free 4
            have f5 := L5.box.free 5
            go_wp2_with fail
            go_meet
            have lW := lBA
            refine ⟨⟨_, _, L5.type (fp := fp) ⟨hT.1, fun b hb => by have := hT.2 b hb; omega⟩ (fun h => by have := hT.2 _ h; omega) (fun g hg => by simp [Value.ownBlock, lt0] at hg), ea, hs, er, eo, en, rfl⟩, ?_, ?_⟩
            · exact (B5.far (p := ⟨w2.heap.size, 4, none⟩) (by simp; omega) _).far (p := ⟨w2.heap.size, 5, none⟩) (by simp; omega) _
            · exact Drew.store hC (Drew.store hC D5 (q := ⟨w2.heap.size, 4, none⟩) (by simp; omega) _) (q := ⟨w2.heap.size, 5, none⟩) (by simp; omega) _
          | false =>
            go_wp2_with fail
            go_meet
            exact ⟨⟨t, lt0, LA, ea, by rw [et]; simp [ty0, Ty.size, Ty.sizes], er, eo, en, rfl⟩, BA, DA⟩
        case rest =>
        clear draw2 s0 lBA BA DA LA ea et er eo en
        clear t
        obtain ⟨⟨t, l, LA, ea, et, er, eo, en, el⟩, BA, DA⟩ := hcut
        have s0 := LA.box.cell 0
        have lBA := BA.lt
        go_upto_if 49 with fail
        go_cut [] (fun wx => (∃ (t : Tm) (l : Lt), LaidM w2.heap.size (w.heap.size + 1) wx t l ∧ t.args = [] ∧ t.wt ≤ 2200) ∧ Blk wx w.heap.size 29 #[.int .i64 0, .string ⟨#[]⟩, .string ⟨#[]⟩, .int .i64 0, .int .i64 0, .slice none 0 0, .int .i64 0, .slice none 0 0, .slice none 0 0] ∧ Drew p w wx)
        case first =>
          have hwt := t.wt_eq
          rw [ea, er] at hwt
          simp only [Tm.wts, ty0, Ty.sizes] at hwt
          have hts := t.type.size_eq
          generalize (t.kind == 9) = c9
          cases c9 with
          | true =>
            go_wp2_with fail
            have DP := DA.trans (Drew.alloc DA.cur (.cells #[.string ⟨#[122]⟩, .string ⟨#[119]⟩] 9))
            refine (l1Pick_any p wc.heap.size 2 9 _ _ DP.cur (Blk.new wc _ _) DA.cur.lt rfl (by omega) (by omega) (strs_of [⟨#[122]⟩, ⟨#[119]⟩] (by decide))).mono ?_
            rintro e w5 ⟨ot, rfl, hot, -, d5⟩
            have D5 := DP.trans d5
            have lS := LA.lt
            have L5 := (LA.keep (Fresh.of_below (below_new wc (.cells #[.string ⟨#[122]⟩, .string ⟨#[119]⟩] 9)))).keep (d5.fresh (by omega))
            have lBC := (BA.alloc (.cells #[.string ⟨#[122]⟩, .string ⟨#[119]⟩] 9)).lt
            have B5 : Blk w5 w.heap.size 29 #[.int .i64 0, .string ⟨#[]⟩, .string ⟨#[]⟩, .int .i64 0, .int .i64 0, .slice none 0 0, .int .i64 0, .slice none 0 0, .slice none 0 0] := (d5.block lBC (by omega)).trans (BA.alloc _)
            have c2 := L5.box.cell 2
            have f2 := L5.box.free 2
            go_wp2_with fail
            have L6 := L5.other ot (by omega)
            have B6 := B5.far (p := ⟨w2.heap.size, 2, none⟩) (show w.heap.size ≠ w2.heap.size by omega) (.string ot)
            have D6 := Drew.store hC D5 (q := ⟨w2.heap.size, 2, none⟩) (show w.heap.size ≤ w2.heap.size by omega) (.string ot)
            generalize w5.setCell ⟨w2.heap.size, 2, none⟩ (.string ot) = w6 at L6 B6 D6 ⊢
            refine (l3Draw_any p 2 (by omega) w6 D6.cur).mono ?_
            rintro e w7 ⟨u, v, rfl, ho, hs, d7⟩
            obtain ⟨ua, un, uc, rfl, -⟩ := ho.rd
            obtain ⟨fp, hT⟩ := ho.tyAt
            have lS6 := L6.lt
            have lB6 := B6.lt
            have L7 := L6.keep (d7.fresh (by omega))
            have B7 : Blk w7 w.heap.size 29 #[.int .i64 0, .string ⟨#[]⟩, .string ⟨#[]⟩, .int .i64 0, .int .i64 0, .slice none 0 0, .int .i64 0, .slice none 0 0, .slice none 0 0] := (d7.block lB6 (by omega)).trans B6
            have D7 := D6.trans d7
            have c6 := L7.box.cell 6
            have c7 := L7.box.cell 7
            have f6 := L7.box.free 6
            have f7 := L7.box.free 7
            go_wp2_with fail
            go_meet
            refine ⟨⟨_, _, L7.res (fp := fp) ⟨hT.1, fun b hb => by have := hT.2 b hb; omega⟩ (fun h => by have := hT.2 _ h; omega) (fun g hg => by rw [el] at hg; simp [Value.ownBlock] at hg), ea, ?_⟩, ?_, ?_⟩
            · rw [Tm.wt_eq]
              have hus := u.size_eq
              show t.name.size + ot.size + Ty.sizes t.type.args + Ty.sizes u.args + Tm.wts t.args ≤ 2200
              rw [ea, Tm.wts]
              have : u.size ≤ 3 := hs
              omega
            · exact (B7.far (p := ⟨w2.heap.size, 6, none⟩) (by simp; omega) _).far (p := ⟨w2.heap.size, 7, none⟩) (by simp; omega) _
            · exact Drew.store hC (Drew.store hC D7 (q := ⟨w2.heap.size, 6, none⟩) (by simp; omega) _) (q := ⟨w2.heap.size, 7, none⟩) (by simp; omega) _
          | false =>
            go_wp2_with fail
            go_meet
            exact ⟨⟨t, l, LA, ea, by omega⟩, BA, DA⟩
        case rest =>
        clear s0 lBA BA DA LA ea et er eo en el
        clear t
        obtain ⟨⟨t, l, LA, ea, hw2⟩, BA, DA⟩ := hcut
        have lS := LA.lt
        obtain ⟨s0, s1, s2, s3, s4, s5, s6, s7, s8⟩ := LA.box.nine
        have ar := arityS_le t.kind t.name
        have CA := hide (l5Arity_any t l wc)
        generalize arityS t.kind t.name = n at ar CA
        go_wp2_with fail
        refine CA.out.mono ?_
        rintro e w4 ⟨rfl, b4⟩
        have L4 := LA.keep (Fresh.of_below b4)
        have B4 := BA.under b4
        have D4 := DA.next b4
        clear s0 s1 s2 s3 s4 s5 s6 s7 s8 CA LA BA DA b4
        obtain ⟨i0, hi, hz0, hz1, hz2⟩ := info_parts Tryz.infoTerm
        go_wp2_with fail
        go_loopw [7] (fun i wr => ∃ j : Nat, j ≤ 3 ∧ ((j : Int) ≤ n ∨ j = 0) ∧ i = .int .i64 j ∧ (∃ xs lr, xs.length = j ∧ LaidM w2.heap.size (w.heap.size + 1) wr { t with args := xs } lr ∧ Hid (Tm.wt { t with args := xs } ≤ 2200 + j * (1 + bndM (d - 1)))) ∧ Blk wr w.heap.size 29 #[.int .i64 0, .string ⟨#[]⟩, .string ⟨#[]⟩, .int .i64 0, .int .i64 0, .slice none 0 0, .int .i64 0, .slice none 0 0, .slice none 0 0] ∧ Drew p w wr) (fun i _ => (n - intOf i).toNat)
        case atStart => exact ⟨0, by omega, .inr rfl, rfl, ⟨[], l, rfl, by have e : ({ t with args := [] } : Tm) = t := (by rw [← ea]; cases t; rfl); rw [e]; exact L4, by have e : ({ t with args := [] } : Tm) = t := (by rw [← ea]; cases t; rfl); rw [Hid, e]; omega⟩, B4, D4⟩
        case round =>
          clear L4 B4 D4
          obtain ⟨j, hj3, hjn, rfl, ⟨xs, lr, hxl, hL, HW⟩, hR, hD⟩ := hrel
          have hB := hL.box
          have lS := hB.lt
          have lR := hR.lt
          by_cases hlt2 : (j : Int) < n
          · have hdd : decide ((j : Int) < n) = true := by simp; omega
            obtain ⟨hbX, -, hf, cs, f1, f2, f3, h1, h2, hown, h3, hX3, hX1, hX2, hap⟩ := hL
            replace hown : wr.ownsRow (w.heap.size + 1) 29 9 (.slice lr.aa lr.an lr.ac) j cs := by rw [← hxl]; exact hown
            have hxl := hide hxl
            have HBX := hide hB
            have s8 : wr.cell? ⟨w2.heap.size, 8, none⟩ = some (.slice lr.aa lr.an lr.ac) := hB.cell 8
            have hC5 : Cur wr.drew p := hD.cur.below (below_drew _)
            have hCr := hide hD.cur
            have hwr : IntKind.i64.wrap ((d : Int) - 1) = (d : Int) - 1 := IntWalk.i64_in _ (by omega)
            go_wp2_with fail
            go_region_law (first
              | (go_simp; go_at_call 39; (with_reducible refine (HI.out _ hC5).mono ?_); rintro e w5 ⟨x, lx, rfl, hO1, hs1, d1⟩; replace hO1 : OwnM wr.heap.size w5 x lx := hO1; replace d1 : Drew p wr w5 := Drew.after hCr.out (below_drew _) d1; have s1 := d1.size; have B1 : Blk w5 w2.heap.size 29 _ := (d1.block lS (by omega)).trans HBX.out; have y8 := B1.cell 8; have y8n := fun o => (B1.alloc o).cell 8)
              | (refine step_append_lies _ (by rfl) _ _ _ (by rfl) (w.heap.size + 1) 29 i0 _ 9 136 Tryz.underlying27 hi hz0 hz1 hz2 rfl (by omega) (.slice lr.aa lr.an lr.ac) j cs (by rfl) ((own_fresh hown (d1.fresh (by omega))).alloc _) ⟨w5.heap.size, 0, none⟩ 1 1 (tcells x lx) (by rfl) (by rfl) (World.news_of_block (cs := #[.int .i64 x.kind, .string x.name, .string x.other, .int .i64 x.n, .int .i64 x.type.kind, .slice lx.ta lx.tn lx.tc, .int .i64 x.res.kind, .slice lx.ra lx.rn lx.rc, .slice lx.aa lx.an lx.ac]) (t := 29) (fr := (0, 0)) (heap_alloc_new w5 _)) (by simp [Value.oneCell', tcells]) (by omega) (by unfold maxLen; omega) (by omega) (by simp; omega) (w5.heap.size + 1) (by simp) ?_; intro gg cap' w6 hown2 hgrow hat hlt6; have hB6 := box_grown (fun g hg => (hap g hg).1) B1 hgrow; have z8 := hB6.cell 8; have x8 := hB6.free 8))
            all_goals
              go_wp2_with fail
              go_roundw
              case rel =>
                obtain ⟨fx, hx, hxf⟩ := hO1.rm
                have hR5 : Blk w5 w.heap.size 29 #[.int .i64 0, .string ⟨#[]⟩, .string ⟨#[]⟩, .int .i64 0, .int .i64 0, .slice none 0 0, .int .i64 0, .slice none 0 0, .slice none 0 0] := (d1.block lR (by omega)).trans hR
                have hXg : ∀ X, X < (w.heap.size + 1) → some X ≠ (Value.slice lr.aa lr.an lr.ac).ownBlock := fun X hX e => by have := (hown.lt X e.symm).1; omega
                have H := LaidM.step (t := { t with args := xs }) (x := x) hbX HBX.out hf hxl.out.symm h1 h2 hown h3 hX3 hX1 hX2 hap (d1.fresh (by omega)) hx hxf hown2 hgrow rfl (by simpa using hat)
                refine ⟨j + 1, by omega, by omega, by go_num, ⟨xs ++ [x], _, by rw [List.length_append, hxl.out]; rfl, H, ?_⟩, ?_, ?_⟩
                · have h := HW.out
                  rw [Hid, wt_snoc]
                  have e : (j + 1) * (1 + bndM (d - 1)) = j * (1 + bndM (d - 1)) + (1 + bndM (d - 1)) := Nat.succ_mul _ _
                  omega
                · exact ((hR5.alloc _).grown hgrow (hXg _ (by omega))).far (p := ⟨w2.heap.size, 8, none⟩) (by simp; omega) _
                · exact Drew.over hC (hD.trans d1) ((((Below.refl _ _).alloc (by omega) _).grown hgrow (by simp; omega) fun k hk => by have := (hown.lt k hk).1; omega).setCell (p := ⟨w2.heap.size, 8, none⟩) (by simp; omega) _)
              case measure => simp [intOf]; omega
          · have hdd : decide ((j : Int) < n) = false := by simp; omega
            have hwt : Tm.wt { t with args := xs } ≤ bndM d := by
              have h := HW.out
              have e := hbnd.out
              have e2 : j * (1 + bndM (d - 1)) ≤ 3 * (1 + bndM (d - 1)) := Nat.mul_le_mul_right _ hj3
              omega
            clear HW
            generalize ({ t with args := xs } : Tm) = t' at hL hB hwt
            obtain ⟨s0, s1, s2, s3, s4, s5, s6, s7, s8⟩ := hB.nine
            obtain ⟨q0, q1, q2, q3, q4, q5, q6, q7, q8⟩ : _ ∧ _ ∧ _ ∧ _ ∧ _ ∧ _ ∧ _ ∧ _ ∧ _ := ⟨hR.cell 0, hR.cell 1, hR.cell 2, hR.cell 3, hR.cell 4, hR.cell 5, hR.cell 6, hR.cell 7, hR.cell 8⟩
            simp at q0 q1 q2 q3 q4 q5 q6 q7 q8
            obtain ⟨z0, z1, z2, z3, z4, z5, z6, z7, z8⟩ : _ ∧ _ ∧ _ ∧ _ ∧ _ ∧ _ ∧ _ ∧ _ ∧ _ := ⟨hR.free 0, hR.free 1, hR.free 2, hR.free 3, hR.free 4, hR.free 5, hR.free 6, hR.free 7, hR.free 8⟩
            go_wp2_with fail
            have HD := DrawsM.mk rfl hC hL.own (by omega) hwt hD
            have HB := (put_box hR rfl t' lr).nine
            have E := putAt_zero wr w.heap.size t' lr
            rw [← E]
            obtain ⟨r0, r1, r2, r3, r4, r5, r6, r7, r8⟩ := HB
            refine bodyPost_ret (v := .agg #[.int .i64 t'.kind, .string t'.name, .string t'.other, .int .i64 t'.n, .int .i64 t'.type.kind, .slice lr.ta lr.tn lr.tc, .int .i64 t'.res.kind, .slice lr.ra lr.rn lr.rc, .slice lr.aa lr.an lr.ac]) ?_ rfl HD
            simp [results, Tryz.results39, go_sem, r0, r1, r2, r3, r4, r5, r6, r7, r8]
end Go.Proofs.YtklifieahcoljaaGreat
