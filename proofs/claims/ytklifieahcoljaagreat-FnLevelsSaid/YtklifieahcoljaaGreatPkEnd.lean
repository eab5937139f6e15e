/-
  The reader of a text, last part; the draw of a program.
-/
import Derived.Test.YtklifieahcoljaaGreatPkRdC
import Derived.Test.YtklifieahcoljaaGreatPkTx
namespace Go.Proofs.YtklifieahcoljaaGreat
open Go.RowKit
set_option maxRecDepth 100000
set_option linter.unusedVariables false
set_option linter.unusedSimpArgs false

set_option maxHeartbeats 800000 in
theorem FormatTerm_some (t : Tm) (l : Lt) (w : World) (h : Md w t l) (hw : t.wt ≤ 1048576) :
    Calls Tryz.prog 93 #[.agg #[.int .i64 t.kind, .string t.name, .string t.other, .int .i64 t.n, .int .i64 t.type.kind, .slice l.ta l.tn l.tc, .int .i64 t.res.kind, .slice l.ra l.rn l.rc, .slice l.aa l.an l.ac]] w fun e w' => (∃ x : ByteArray, e = .returned (.string x)) ∧ Below w.heap.size w w' := by
  have h1 : Md (w.alloc (.cells #[.int .i64 t.kind, .string t.name, .string t.other, .int .i64 t.n, .int .i64 t.type.kind, .slice l.ta l.tn l.tc, .int .i64 t.res.kind, .slice l.ra l.rn l.rc, .slice l.aa l.an l.ac] 29)) t l := h.below (below_new _ _)
  have C := specIsValidTerm_any t l (w.alloc (.cells #[.int .i64 t.kind, .string t.name, .string t.other, .int .i64 t.n, .int .i64 t.type.kind, .slice l.ta l.tn l.tc, .int .i64 t.res.kind, .slice l.ra l.rn l.rc, .slice l.aa l.an l.ac] 29)) h1 hw
  cases hv : t.valid with
  | true =>
    have hok : t.ok = true := by
      simp only [Tm.valid, Bool.and_eq_true] at hv
      simp [hv]
    replace hok := hide hok
    rw [hv] at C
    replace C := hide C
    clear hv
    go_enter Tryz.func93, Tryz.ntmps93
    go_wp2_with fail
    refine C.out.mono ?_
    rintro e w1 ⟨rfl, b1⟩
    have B1 := (Blk.new w _ _).under b1
    obtain ⟨u0, u1, u2, u3, u4, u5, u6, u7, u8⟩ := B1.nine
    have k1 := below_of_alloc b1
    go_wp2_with fail
    refine (l6Text_any t _ _ (h1.below b1) hok.out hw).mono ?_
    rintro e w2 ⟨rfl, b2⟩
    go_wp2_with fail
    go_ret
    exact ⟨⟨_, rfl⟩, below_next k1 b2⟩
  | false =>
    rw [hv] at C
    replace C := hide C
    clear hv
    go_enter Tryz.func93, Tryz.ntmps93
    go_wp2_with fail
    refine C.out.mono ?_
    rintro e w1 ⟨rfl, b1⟩
    go_wp2_with fail
    go_ret
    exact ⟨⟨_, rfl⟩, below_of_alloc b1⟩
/-- What ParseTerm gives. -/
def GivesP (w : World) (e : Ending) (w' : World) : Prop := ∃ (t : Tm) (l : Lt) (b : Bool), e = .returned (.tuple #[.agg #[.int .i64 t.kind, .string t.name, .string t.other, .int .i64 t.n, .int .i64 t.type.kind, .slice l.ta l.tn l.tc, .int .i64 t.res.kind, .slice l.ra l.rn l.rc, .slice l.aa l.an l.ac], .bool b]) ∧ OwnM w.heap.size w' t l ∧ t.wt ≤ 20000 ∧ Below w.heap.size w w'
set_option maxHeartbeats 6400000 in
theorem ParseTerm_some (s : ByteArray) (w : World) (hs : s.size ≤ 1000) : Calls Tryz.prog 67 #[.string s] w (GivesP w) := by
  have R0 := (Blk.new w 29 #[.int .i64 0, .string ⟨#[]⟩, .string ⟨#[]⟩, .int .i64 0, .int .i64 0, .slice none 0 0, .int .i64 0, .slice none 0 0, .slice none 0 0]).alloc (.cells #[.string s, .int .i64 0, .bool false] 84)
  have r0 : Rdr ((w.alloc (.cells #[.int .i64 0, .string ⟨#[]⟩, .string ⟨#[]⟩, .int .i64 0, .int .i64 0, .slice none 0 0, .int .i64 0, .slice none 0 0, .slice none 0 0] 29)).alloc (.cells #[.string s, .int .i64 0, .bool false] 84)) (w.heap.size + 1) s 0 false := ⟨Blk.new2 w (.cells #[.int .i64 0, .string ⟨#[]⟩, .string ⟨#[]⟩, .int .i64 0, .int .i64 0, .slice none 0 0, .int .i64 0, .slice none 0 0, .slice none 0 0] 29) 84 #[.string s, .int .i64 0, .bool false], by omega, hs⟩
  have k0 := below_next (below_new w (.cells #[.int .i64 0, .string ⟨#[]⟩, .string ⟨#[]⟩, .int .i64 0, .int .i64 0, .slice none 0 0, .int .i64 0, .slice none 0 0, .slice none 0 0] 29)) (below_new (w.alloc (.cells #[.int .i64 0, .string ⟨#[]⟩, .string ⟨#[]⟩, .int .i64 0, .int .i64 0, .slice none 0 0, .int .i64 0, .slice none 0 0, .slice none 0 0] 29)) (.cells #[.string s, .int .i64 0, .bool false] 84))
  have hs0 : ((w.alloc (.cells #[.int .i64 0, .string ⟨#[]⟩, .string ⟨#[]⟩, .int .i64 0, .int .i64 0, .slice none 0 0, .int .i64 0, .slice none 0 0, .slice none 0 0] 29)).alloc (.cells #[.string s, .int .i64 0, .bool false] 84)).heap.size = w.heap.size + 2 := by simp
  go_enter Tryz.func67, Tryz.ntmps67
  go_upto_region 2 with fail
  generalize (w.alloc (.cells #[.int .i64 0, .string ⟨#[]⟩, .string ⟨#[]⟩, .int .i64 0, .int .i64 0, .slice none 0 0, .int .i64 0, .slice none 0 0, .slice none 0 0] 29)).alloc (.cells #[.string s, .int .i64 0, .bool false] 84) = w1 at R0 r0 k0 hs0 ⊢
  go_wp2_with fail
  refine (l6Term_any (w.heap.size + 1) s 20 1 rfl 0 false w1 r0).mono ?_
  rintro e w2 ⟨t, l, i, b, rfl, O2, r2, p2, W2⟩
  have hpp : phi s 0 false ≤ 14000 := by
    rw [phi_good]
    omega
  have hwt : t.wt ≤ 20000 := by omega
  have k2 := k0.trans (W2.below (B := w.heap.size) (by omega) (by simp))
  have s2 := W2.size
  have R2 := W2.blk R0 (by omega)
  have L3 := LaidM.of_own (O2.base (show w.heap.size + 1 ≤ w1.heap.size by omega)) (by omega)
  have R3 := R2.alloc (.cells #[.int .i64 t.kind, .string t.name, .string t.other, .int .i64 t.n, .int .i64 t.type.kind, .slice l.ta l.tn l.tc, .int .i64 t.res.kind, .slice l.ra l.rn l.rc, .slice l.aa l.an l.ac] 29)
  have r3 := r2.alloc (.cells #[.int .i64 t.kind, .string t.name, .string t.other, .int .i64 t.n, .int .i64 t.type.kind, .slice l.ta l.tn l.tc, .int .i64 t.res.kind, .slice l.ra l.rn l.rc, .slice l.aa l.an l.ac] 29)
  have k3 := k2.alloc (by omega) (.cells #[.int .i64 t.kind, .string t.name, .string t.other, .int .i64 t.n, .int .i64 t.type.kind, .slice l.ta l.tn l.tc, .int .i64 t.res.kind, .slice l.ra l.rn l.rc, .slice l.aa l.an l.ac] 29)
  have hl2 : w2.heap.size < (w2.alloc (.cells #[.int .i64 t.kind, .string t.name, .string t.other, .int .i64 t.n, .int .i64 t.type.kind, .slice l.ta l.tn l.tc, .int .i64 t.res.kind, .slice l.ra l.rn l.rc, .slice l.aa l.an l.ac] 29)).heap.size := by simp
  go_upto_region 3 with fail
  generalize w2.alloc (.cells #[.int .i64 t.kind, .string t.name, .string t.other, .int .i64 t.n, .int .i64 t.type.kind, .slice l.ta l.tn l.tc, .int .i64 t.res.kind, .slice l.ra l.rn l.rc, .slice l.aa l.an l.ac] 29) = w3 at L3 R3 r3 k3 hl2 ⊢
  generalize hX : w2.heap.size = X at L3 hl2 ⊢
  clear O2 R2 r2 k2 R0 r0 k0
  have CF := hide (FormatTerm_some t l w3 L3.own.md (by omega))
  have c1 := r3.1.cell 1
  have c2 := r3.1.cell 2
  simp at c1 c2
  obtain ⟨s0, s1, s2, s3, s4, s5, s6, s7, s8⟩ := L3.box.nine
  by_cases hgo : b = false ∧ i = s.size
  · obtain ⟨rfl, rfl⟩ := hgo
    go_wp2_with fail
    refine CF.out.mono ?_
    rintro e w4 ⟨⟨x, rfl⟩, b4⟩
    have RB := R3.under b4
    have L4 := L3.keep (Fresh.of_below b4)
    have k4 := k3.trans (b4.mono k3.size)
    clear s0 s1 s2 s3 s4 s5 s6 s7 s8 c1 c2
    by_cases hx : x = s
    · have hx1 : (x.toList == s.toList) = true := ba_same hx
      have hx2 : (x.toList != s.toList) = false := by simp [bne, hx1]
      clear hx
      have HD : GivesP w (.returned (.tuple #[.agg #[.int .i64 t.kind, .string t.name, .string t.other, .int .i64 t.n, .int .i64 t.type.kind, .slice l.ta l.tn l.tc, .int .i64 t.res.kind, .slice l.ra l.rn l.rc, .slice l.aa l.an l.ac], .bool true])) (putAt w4 w.heap.size 0 (tcells t l)) :=
        ⟨t, l, true, rfl, (L4.own.keep (putAt_fresh (M := w.heap.size) (by omega) _ _ _)).base (by omega), hwt, putAt_below (Nat.le_refl _) _ _ _ k4⟩
      replace HD := hide HD
      have HB := hide (put_box RB rfl t l).nine
      obtain ⟨s0, s1, s2, s3, s4, s5, s6, s7, s8⟩ := L4.box.nine
      obtain ⟨q0, q1, q2, q3, q4, q5, q6, q7, q8⟩ : _ ∧ _ ∧ _ ∧ _ ∧ _ ∧ _ ∧ _ ∧ _ ∧ _ := ⟨RB.cell 0, RB.cell 1, RB.cell 2, RB.cell 3, RB.cell 4, RB.cell 5, RB.cell 6, RB.cell 7, RB.cell 8⟩
      simp at q0 q1 q2 q3 q4 q5 q6 q7 q8
      obtain ⟨z0, z1, z2, z3, z4, z5, z6, z7, z8⟩ : _ ∧ _ ∧ _ ∧ _ ∧ _ ∧ _ ∧ _ ∧ _ ∧ _ := ⟨RB.free 0, RB.free 1, RB.free 2, RB.free 3, RB.free 4, RB.free 5, RB.free 6, RB.free 7, RB.free 8⟩
      go_wp2_with fail
      have E := putAt_zero w4 w.heap.size t l
      rw [← E]
      obtain ⟨r0, r1, r2, r3, r4, r5, r6, r7, r8⟩ := HB.out
      refine bodyPost_ret (v := .tuple #[.agg #[.int .i64 t.kind, .string t.name, .string t.other, .int .i64 t.n, .int .i64 t.type.kind, .slice l.ta l.tn l.tc, .int .i64 t.res.kind, .slice l.ra l.rn l.rc, .slice l.aa l.an l.ac], .bool true]) ?_ rfl HD.out
      simp [results, Tryz.results67, go_sem, r0, r1, r2, r3, r4, r5, r6, r7, r8]
    · have hx1 : (x.toList == s.toList) = false := ba_other hx
      have hx2 : (x.toList != s.toList) = true := by simp [bne, hx1]
      clear hx
      have HD : GivesP w (.returned (.tuple #[.agg #[.int .i64 (leafM 0 0 ⟨#[]⟩).kind, .string (leafM 0 0 ⟨#[]⟩).name, .string (leafM 0 0 ⟨#[]⟩).other, .int .i64 (leafM 0 0 ⟨#[]⟩).n, .int .i64 (leafM 0 0 ⟨#[]⟩).type.kind, .slice lt0.ta lt0.tn lt0.tc, .int .i64 (leafM 0 0 ⟨#[]⟩).res.kind, .slice lt0.ra lt0.rn lt0.rc, .slice lt0.aa lt0.an lt0.ac], .bool false])) (putAt w4 w.heap.size 0 (tcells (leafM 0 0 ⟨#[]⟩) lt0)) :=
        ⟨leafM 0 0 ⟨#[]⟩, lt0, false, rfl, leafM_own _ _ (by simp [i64]) (by simp [i64]) (by simp [ByteArray.size]), by rw [leafM_wt]; have h0 : (ByteArray.mk #[]).size = 0 := rfl; omega, putAt_below (Nat.le_refl _) _ _ _ k4⟩
      replace HD := hide HD
      have HB := (put_box RB rfl (leafM 0 0 ⟨#[]⟩) lt0).nine
      have E := putAt_zero w4 w.heap.size (leafM 0 0 ⟨#[]⟩) lt0
      dsimp only [leafM, lt0, ty0] at HB E
      replace HB := hide HB
      replace E := hide E
      obtain ⟨q0, q1, q2, q3, q4, q5, q6, q7, q8⟩ : _ ∧ _ ∧ _ ∧ _ ∧ _ ∧ _ ∧ _ ∧ _ ∧ _ := ⟨RB.cell 0, RB.cell 1, RB.cell 2, RB.cell 3, RB.cell 4, RB.cell 5, RB.cell 6, RB.cell 7, RB.cell 8⟩
      simp at q0 q1 q2 q3 q4 q5 q6 q7 q8
      obtain ⟨z0, z1, z2, z3, z4, z5, z6, z7, z8⟩ : _ ∧ _ ∧ _ ∧ _ ∧ _ ∧ _ ∧ _ ∧ _ ∧ _ := ⟨RB.free 0, RB.free 1, RB.free 2, RB.free 3, RB.free 4, RB.free 5, RB.free 6, RB.free 7, RB.free 8⟩
      go_wp2_with fail
      rw [← E.out]
      obtain ⟨r0, r1, r2, r3, r4, r5, r6, r7, r8⟩ := HB.out
      refine bodyPost_ret (v := .tuple #[.agg #[.int .i64 (leafM 0 0 ⟨#[]⟩).kind, .string (leafM 0 0 ⟨#[]⟩).name, .string (leafM 0 0 ⟨#[]⟩).other, .int .i64 (leafM 0 0 ⟨#[]⟩).n, .int .i64 (leafM 0 0 ⟨#[]⟩).type.kind, .slice lt0.ta lt0.tn lt0.tc, .int .i64 (leafM 0 0 ⟨#[]⟩).res.kind, .slice lt0.ra lt0.rn lt0.rc, .slice lt0.aa lt0.an lt0.ac], .bool false]) ?_ rfl HD.out
      simp [results, Tryz.results67, go_sem, r0, r1, r2, r3, r4, r5, r6, r7, r8, leafM, lt0, ty0]
  · have RB := R3
    have hst : b = true ∨ b = false ∧ ((i : Int) != (s.size : Int)) = true := by
      cases b with
      | true => exact .inl rfl
      | false => exact .inr ⟨rfl, by simp only [bne_iff_ne, ne_eq]; intro e; exact hgo ⟨rfl, by omega⟩⟩
    clear hgo s0 s1 s2 s3 s4 s5 s6 s7 s8
    rcases hst with rfl | ⟨rfl, hne⟩
    · skip
      have HD : GivesP w (.returned (.tuple #[.agg #[.int .i64 (leafM 0 0 ⟨#[]⟩).kind, .string (leafM 0 0 ⟨#[]⟩).name, .string (leafM 0 0 ⟨#[]⟩).other, .int .i64 (leafM 0 0 ⟨#[]⟩).n, .int .i64 (leafM 0 0 ⟨#[]⟩).type.kind, .slice lt0.ta lt0.tn lt0.tc, .int .i64 (leafM 0 0 ⟨#[]⟩).res.kind, .slice lt0.ra lt0.rn lt0.rc, .slice lt0.aa lt0.an lt0.ac], .bool false])) (putAt w3 w.heap.size 0 (tcells (leafM 0 0 ⟨#[]⟩) lt0)) :=
        ⟨leafM 0 0 ⟨#[]⟩, lt0, false, rfl, leafM_own _ _ (by simp [i64]) (by simp [i64]) (by simp [ByteArray.size]), by rw [leafM_wt]; have h0 : (ByteArray.mk #[]).size = 0 := rfl; omega, putAt_below (Nat.le_refl _) _ _ _ k3⟩
      replace HD := hide HD
      have HB := (put_box RB rfl (leafM 0 0 ⟨#[]⟩) lt0).nine
      have E := putAt_zero w3 w.heap.size (leafM 0 0 ⟨#[]⟩) lt0
      dsimp only [leafM, lt0, ty0] at HB E
      replace HB := hide HB
      replace E := hide E
      obtain ⟨q0, q1, q2, q3, q4, q5, q6, q7, q8⟩ : _ ∧ _ ∧ _ ∧ _ ∧ _ ∧ _ ∧ _ ∧ _ ∧ _ := ⟨RB.cell 0, RB.cell 1, RB.cell 2, RB.cell 3, RB.cell 4, RB.cell 5, RB.cell 6, RB.cell 7, RB.cell 8⟩
      simp at q0 q1 q2 q3 q4 q5 q6 q7 q8
      obtain ⟨z0, z1, z2, z3, z4, z5, z6, z7, z8⟩ : _ ∧ _ ∧ _ ∧ _ ∧ _ ∧ _ ∧ _ ∧ _ ∧ _ := ⟨RB.free 0, RB.free 1, RB.free 2, RB.free 3, RB.free 4, RB.free 5, RB.free 6, RB.free 7, RB.free 8⟩
      go_wp2_with fail
      rw [← E.out]
      obtain ⟨r0, r1, r2, r3, r4, r5, r6, r7, r8⟩ := HB.out
      refine bodyPost_ret (v := .tuple #[.agg #[.int .i64 (leafM 0 0 ⟨#[]⟩).kind, .string (leafM 0 0 ⟨#[]⟩).name, .string (leafM 0 0 ⟨#[]⟩).other, .int .i64 (leafM 0 0 ⟨#[]⟩).n, .int .i64 (leafM 0 0 ⟨#[]⟩).type.kind, .slice lt0.ta lt0.tn lt0.tc, .int .i64 (leafM 0 0 ⟨#[]⟩).res.kind, .slice lt0.ra lt0.rn lt0.rc, .slice lt0.aa lt0.an lt0.ac], .bool false]) ?_ rfl HD.out
      simp [results, Tryz.results67, go_sem, r0, r1, r2, r3, r4, r5, r6, r7, r8, leafM, lt0, ty0]
    · have hne2 : ((i : Int) == (s.size : Int)) = false := by simpa [bne] using hne
      have HD : GivesP w (.returned (.tuple #[.agg #[.int .i64 (leafM 0 0 ⟨#[]⟩).kind, .string (leafM 0 0 ⟨#[]⟩).name, .string (leafM 0 0 ⟨#[]⟩).other, .int .i64 (leafM 0 0 ⟨#[]⟩).n, .int .i64 (leafM 0 0 ⟨#[]⟩).type.kind, .slice lt0.ta lt0.tn lt0.tc, .int .i64 (leafM 0 0 ⟨#[]⟩).res.kind, .slice lt0.ra lt0.rn lt0.rc, .slice lt0.aa lt0.an lt0.ac], .bool false])) (putAt w3 w.heap.size 0 (tcells (leafM 0 0 ⟨#[]⟩) lt0)) :=
        ⟨leafM 0 0 ⟨#[]⟩, lt0, false, rfl, leafM_own _ _ (by simp [i64]) (by simp [i64]) (by simp [ByteArray.size]), by rw [leafM_wt]; have h0 : (ByteArray.mk #[]).size = 0 := rfl; omega, putAt_below (Nat.le_refl _) _ _ _ k3⟩
      replace HD := hide HD
      have HB := (put_box RB rfl (leafM 0 0 ⟨#[]⟩) lt0).nine
      have E := putAt_zero w3 w.heap.size (leafM 0 0 ⟨#[]⟩) lt0
      dsimp only [leafM, lt0, ty0] at HB E
      replace HB := hide HB
      replace E := hide E
      obtain ⟨q0, q1, q2, q3, q4, q5, q6, q7, q8⟩ : _ ∧ _ ∧ _ ∧ _ ∧ _ ∧ _ ∧ _ ∧ _ ∧ _ := ⟨RB.cell 0, RB.cell 1, RB.cell 2, RB.cell 3, RB.cell 4, RB.cell 5, RB.cell 6, RB.cell 7, RB.cell 8⟩
      simp at q0 q1 q2 q3 q4 q5 q6 q7 q8
      obtain ⟨z0, z1, z2, z3, z4, z5, z6, z7, z8⟩ : _ ∧ _ ∧ _ ∧ _ ∧ _ ∧ _ ∧ _ ∧ _ ∧ _ := ⟨RB.free 0, RB.free 1, RB.free 2, RB.free 3, RB.free 4, RB.free 5, RB.free 6, RB.free 7, RB.free 8⟩
      go_wp2_with fail
      rw [← E.out]
      obtain ⟨r0, r1, r2, r3, r4, r5, r6, r7, r8⟩ := HB.out
      refine bodyPost_ret (v := .tuple #[.agg #[.int .i64 (leafM 0 0 ⟨#[]⟩).kind, .string (leafM 0 0 ⟨#[]⟩).name, .string (leafM 0 0 ⟨#[]⟩).other, .int .i64 (leafM 0 0 ⟨#[]⟩).n, .int .i64 (leafM 0 0 ⟨#[]⟩).type.kind, .slice lt0.ta lt0.tn lt0.tc, .int .i64 (leafM 0 0 ⟨#[]⟩).res.kind, .slice lt0.ra lt0.rn lt0.rc, .slice lt0.aa lt0.an lt0.ac], .bool false]) ?_ rfl HD.out
      simp [results, Tryz.results67, go_sem, r0, r1, r2, r3, r4, r5, r6, r7, r8, leafM, lt0, ty0]
end Go.Proofs.YtklifieahcoljaaGreat

namespace Go.Proofs.YtklifieahcoljaaGreat
open Go.RowKit
set_option maxRecDepth 100000
set_option linter.unusedVariables false
set_option linter.unusedSimpArgs false

set_option maxHeartbeats 6400000 in
theorem l9Sample_any (p : Nat) (w : World) (hC : Cur w p) : Calls Tryz.prog 44 #[.pointer (some ⟨p, 0, none⟩)] w (DrawsM p 20000 w) := by
  have hlt := hC.lt
  have d0 := Drew.alloc hC (.cells #[.int .i64 0, .string ⟨#[]⟩, .string ⟨#[]⟩, .int .i64 0, .int .i64 0, .slice none 0 0, .int .i64 0, .slice none 0 0, .slice none 0 0] 29)
  have B0 := Blk.new w 29 #[.int .i64 0, .string ⟨#[]⟩, .string ⟨#[]⟩, .int .i64 0, .int .i64 0, .slice none 0 0, .int .i64 0, .slice none 0 0, .slice none 0 0]
  have s0 : (w.alloc (.cells #[.int .i64 0, .string ⟨#[]⟩, .string ⟨#[]⟩, .int .i64 0, .int .i64 0, .slice none 0 0, .int .i64 0, .slice none 0 0, .slice none 0 0] 29)).heap.size = w.heap.size + 1 := by simp
  go_enter Tryz.func44, Tryz.ntmps44
  go_upto_region 1 with fail
  generalize w.alloc (.cells #[.int .i64 0, .string ⟨#[]⟩, .string ⟨#[]⟩, .int .i64 0, .int .i64 0, .slice none 0 0, .int .i64 0, .slice none 0 0, .slice none 0 0] 29) = w0 at d0 B0 s0 ⊢
  replace s0 := hide s0
  go_wp2_with fail
  have L := fun (cs : Array Value) (hn : 11 = cs.size) (hi : ∀ j (hj : j < cs.size), ∃ z : ByteArray, cs[j] = .string z ∧ z.size ≤ 1000) => l1Pick_any p w0.heap.size 11 9 cs (w0.alloc (.cells cs 9)) (Drew.alloc d0.cur _).cur (Blk.new w0 _ _) d0.cur.lt hn (by omega) (by omega) hi
  refine Calls.mono (L _ ?_ ?_) ?_
  · rfl
  · intro j hj
    match j, hj with
    | 0, _ => exact ⟨_, rfl, by decide⟩
    | 1, _ => exact ⟨_, rfl, by decide⟩
    | 2, _ => exact ⟨_, rfl, by decide⟩
    | 3, _ => exact ⟨_, rfl, by decide⟩
    | 4, _ => exact ⟨_, rfl, by decide⟩
    | 5, _ => exact ⟨_, rfl, by decide⟩
    | 6, _ => exact ⟨_, rfl, by decide⟩
    | 7, _ => exact ⟨_, rfl, by decide⟩
    | 8, _ => exact ⟨_, rfl, by decide⟩
    | 9, _ => exact ⟨_, rfl, by decide⟩
    | 10, _ => exact ⟨_, rfl, by decide⟩
    | n + 11, h => simp at h; omega
  rintro e w2 ⟨z, rfl, hz, -, d2⟩
  replace s0 := s0.out
  have D2 := d0.trans ((Drew.alloc d0.cur _).trans d2)
  have lB := B0.lt
  have B2 : Blk w2 w.heap.size 29 #[.int .i64 0, .string ⟨#[]⟩, .string ⟨#[]⟩, .int .i64 0, .int .i64 0, .slice none 0 0, .int .i64 0, .slice none 0 0, .slice none 0 0] := (d2.block (by simp; omega) (by omega)).trans (B0.alloc _)
  have s2 := D2.size
  have s2' := d2.size
  simp at s2'
  clear d2
  go_wp2_with fail
  refine (ParseTerm_some z w2 hz).mono ?_
  rintro e w3 ⟨t, l, b, rfl, O3, hwt, b3⟩
  have D3 := D2.next b3
  have B3 := B2.under b3
  have s3 := b3.size
  have O3' := O3.base (show w.heap.size + 1 ≤ w2.heap.size by omega)
  have L4 := LaidM.of_own O3' (by omega)
  have RB := B3.alloc (.cells #[.int .i64 t.kind, .string t.name, .string t.other, .int .i64 t.n, .int .i64 t.type.kind, .slice l.ta l.tn l.tc, .int .i64 t.res.kind, .slice l.ra l.rn l.rc, .slice l.aa l.an l.ac] 29)
  have D4 := D3.trans (Drew.alloc D3.cur (.cells #[.int .i64 t.kind, .string t.name, .string t.other, .int .i64 t.n, .int .i64 t.type.kind, .slice l.ta l.tn l.tc, .int .i64 t.res.kind, .slice l.ra l.rn l.rc, .slice l.aa l.an l.ac] 29))
  go_upto_region 2 with fail
  generalize w3.alloc (.cells #[.int .i64 t.kind, .string t.name, .string t.other, .int .i64 t.n, .int .i64 t.type.kind, .slice l.ta l.tn l.tc, .int .i64 t.res.kind, .slice l.ra l.rn l.rc, .slice l.aa l.an l.ac] 29) = w4 at L4 RB D4 ⊢
  generalize w3.heap.size = X at L4 ⊢
  clear B0 B2 B3 D2 D3 d0
  have HD := hide (DrawsM.mk (N := 20000) rfl hC L4.own (by omega) hwt D4)
  have HB := hide (put_box RB rfl t l).nine
  obtain ⟨s0, s1, s2, s3, s4, s5, s6, s7, s8⟩ := L4.box.nine
  obtain ⟨q0, q1, q2, q3, q4, q5, q6, q7, q8⟩ : _ ∧ _ ∧ _ ∧ _ ∧ _ ∧ _ ∧ _ ∧ _ ∧ _ := ⟨RB.cell 0, RB.cell 1, RB.cell 2, RB.cell 3, RB.cell 4, RB.cell 5, RB.cell 6, RB.cell 7, RB.cell 8⟩
  simp at q0 q1 q2 q3 q4 q5 q6 q7 q8
  obtain ⟨z0, z1, z2, z3, z4, z5, z6, z7, z8⟩ : _ ∧ _ ∧ _ ∧ _ ∧ _ ∧ _ ∧ _ ∧ _ ∧ _ := ⟨RB.free 0, RB.free 1, RB.free 2, RB.free 3, RB.free 4, RB.free 5, RB.free 6, RB.free 7, RB.free 8⟩
  go_wp2_with fail
  have E := putAt_zero w4 w.heap.size t l
  rw [← E]
  obtain ⟨r0, r1, r2, r3, r4, r5, r6, r7, r8⟩ := HB.out
  refine bodyPost_ret (v := .agg #[.int .i64 t.kind, .string t.name, .string t.other, .int .i64 t.n, .int .i64 t.type.kind, .slice l.ta l.tn l.tc, .int .i64 t.res.kind, .slice l.ra l.rn l.rc, .slice l.aa l.an l.ac]) ?_ rfl HD.out
  simp [results, Tryz.results44, go_sem, r0, r1, r2, r3, r4, r5, r6, r7, r8]
end Go.Proofs.YtklifieahcoljaaGreat

namespace Go.Proofs.YtklifieahcoljaaGreat
open Go.RowKit
set_option maxRecDepth 100000
set_option linter.unusedVariables false
set_option linter.unusedSimpArgs false

/-- TwoC cells of a block. -/
def TwoC (b : Nat) (u v : Value) (W : World) : Prop := W.cell? ⟨b, 0, none⟩ = some u ∧ W.cell? ⟨b, 1, none⟩ = some v
theorem twoC_set {b M i : Nat} {u v x : Value} {W : World} (hne : b ≠ M) (h : TwoC b u v W) : TwoC b u v (W.setCell ⟨M, i, none⟩ x) :=
  ⟨(World.cell?_setCell_other _ _ _ _ (fun e => hne (by injection e with e1; exact e1.symm))).trans h.1, (World.cell?_setCell_other _ _ _ _ (fun e => hne (by injection e with e1; exact e1.symm))).trans h.2⟩
section
variable {P : Program} {ops : Array Oper} {Q : Exit → Act → World → Prop} {md : Region.Mode} {S : World → Prop}
/-- TwoC operations are ready: each order. -/
theorem goW2 (i j : Nat) {o o' : Oper} {rest rest' : List Oper} {fuel : Nat} {listed : Array Bool} {a : Act} {w : World} (hd : ops.toList.drop i = o :: rest) (hd' : ops.toList.drop j = o' :: rest') (hr : Region.ready md ops listed = [i, j])
    (h : ∀ K' : Act → World → Prop, Shut (∀ a w, S w → (S w → wpAnyH P md ops Q S fuel (listed.setIfInBounds i true) a w) → K' a w) → if Region.wanted o (yielded ops a.tmps) = true then Oper.wp P o a w K' Q else K' (a.put o.dst undef) w)
    (h' : ∀ K' : Act → World → Prop, Shut (∀ a w, S w → (S w → wpAnyH P md ops Q S fuel (listed.setIfInBounds j true) a w) → K' a w) → if Region.wanted o' (yielded ops a.tmps) = true then Oper.wp P o' a w K' Q else K' (a.put o'.dst undef) w) :
    wpAnyH P md ops Q S (fuel + 1) listed a w :=
  wpAnyH_ready hr (by simp) (AllReadyH.cons (of_drop hd) h (AllReadyH.cons (of_drop hd') h' AllReadyH.nil))
end
/-- Three operations are ready: each order. -/
theorem goW3 {P : Program} {ops : Array Oper} {Q : Exit → Act → World → Prop} {md : Region.Mode} {S : World → Prop} (i j k : Nat) {o o' o2 : Oper} {rest rest' rest2 : List Oper} {fuel : Nat} {listed : Array Bool} {a : Act} {w : World} (hd : ops.toList.drop i = o :: rest) (hd' : ops.toList.drop j = o' :: rest') (hd2 : ops.toList.drop k = o2 :: rest2) (hr : Region.ready md ops listed = [i, j, k])
    (h : ∀ K' : Act → World → Prop, Shut (∀ a w, S w → (S w → wpAnyH P md ops Q S fuel (listed.setIfInBounds i true) a w) → K' a w) → if Region.wanted o (yielded ops a.tmps) = true then Oper.wp P o a w K' Q else K' (a.put o.dst undef) w)
    (h' : ∀ K' : Act → World → Prop, Shut (∀ a w, S w → (S w → wpAnyH P md ops Q S fuel (listed.setIfInBounds j true) a w) → K' a w) → if Region.wanted o' (yielded ops a.tmps) = true then Oper.wp P o' a w K' Q else K' (a.put o'.dst undef) w)
    (h2 : ∀ K' : Act → World → Prop, Shut (∀ a w, S w → (S w → wpAnyH P md ops Q S fuel (listed.setIfInBounds k true) a w) → K' a w) → if Region.wanted o2 (yielded ops a.tmps) = true then Oper.wp P o2 a w K' Q else K' (a.put o2.dst undef) w) :
    wpAnyH P md ops Q S (fuel + 1) listed a w :=
  wpAnyH_ready hr (by simp) (AllReadyH.cons (of_drop hd) h (AllReadyH.cons (of_drop hd') h' (AllReadyH.cons (of_drop hd2) h2 AllReadyH.nil)))
/-- A type that lies from 'base' on, nowhere in block X. -/
def TyN (X base : Nat) (w : World) (t : Ty) (a : Option Addr) (n c : Nat) : Prop := ∃ fp, TyAt base w t a n c fp ∧ X ∉ fp
theorem TyN.tyA {X base : Nat} {w : World} {t : Ty} {a : Option Addr} {n c : Nat} (h : TyN X base w t a n c) : TyA base w t a n c := by
  obtain ⟨fp, h, -⟩ := h
  exact ⟨fp, h⟩
theorem TyN.keep {X base : Nat} {w w' : World} {t : Ty} {a : Option Addr} {n c : Nat} (h : TyN X base w t a n c) (hk : Fresh base w w') : TyN X base w' t a n c := by
  obtain ⟨fp, h, hX⟩ := h
  exact ⟨fp, h.fresh hk, hX⟩
theorem TyA.tyX {base : Nat} {w : World} {t : Ty} {a : Option Addr} {n c : Nat} (h : TyA base w t a n c) : TyN w.heap.size base w t a n c := by
  obtain ⟨fp, h⟩ := h
  exact ⟨fp, h, fun hin => Nat.lt_irrefl _ (RT.lt _ _ _ _ h.1 _ hin)⟩
theorem TyA.tyN {X base b1 : Nat} {w : World} {t : Ty} {a : Option Addr} {n c : Nat} (h : TyA b1 w t a n c) (hb : base ≤ b1) (hX : X < b1) : TyN X base w t a n c := by
  obtain ⟨fp, h⟩ := h
  exact ⟨fp, ⟨h.1, fun b hb' => Nat.le_trans hb (h.2 b hb')⟩, fun hin => by have := h.2 _ hin; omega⟩
theorem TyN.sets {X base : Nat} {w : World} {t : Ty} {a : Option Addr} {n c : Nat} {u v : Value} (h : TyN X base w t a n c) : TyN X base ((w.setCell ⟨X, 0, none⟩ u).setCell ⟨X, 1, none⟩ v) t a n c := by
  obtain ⟨fp, h, hX⟩ := h
  exact ⟨fp, ⟨RT.keep _ _ _ _ h.1 fun b hb => (same_set (p := ⟨X, 0, none⟩) (fun e => hX (by have e : b = X := e; rw [← e]; exact hb)) _).trans (same_set (p := ⟨X, 1, none⟩) (fun e => hX (by have e : b = X := e; rw [← e]; exact hb)) _), h.2⟩, hX⟩
theorem Drew.past0 {p X : Nat} {w w1 : World} (hd : Drew p w w1) (hp : p < w.heap.size) (hX : w.heap.size ≤ X) (u v : Value) : Drew p w ((w1.setCell ⟨X, 0, none⟩ u).setCell ⟨X, 1, none⟩ v) :=
  ⟨Drew.set_ (Drew.set_ hd.cur (q := ⟨X, 0, none⟩) (by show p < X; omega) 0 u) (q := ⟨X, 1, none⟩) (by show p < X; omega) 0 v,
    hd.2.over (((Below.refl _ _).setCell (p := ⟨X, 0, none⟩) hX u).setCell (p := ⟨X, 1, none⟩) hX v)⟩
/-- One of the eight types of a row. -/
theorem closed_pick0 {base b : Nat} {W : World} {a3 a7 a10 a13 a16 : Option Addr} {n3 c3 n7 c7 n10 c10 n13 c13 n16 c16 : Nat}
    (B : Blk W b 26 #[.int .i64 1, .slice none 0 0, .int .i64 2, .slice none 0 0, .int .i64 4, .slice a3 n3 c3, .int .i64 4, .slice a7 n7 c7, .int .i64 3, .slice a10 n10 c10, .int .i64 4, .slice a13 n13 c13, .int .i64 1, .slice none 0 0, .int .i64 4, .slice a16 n16 c16])
    (T3 : TyA base W ⟨4, [⟨1, []⟩]⟩ a3 n3 c3) (T7 : TyA base W ⟨4, [⟨3, [⟨1, []⟩, ⟨1, []⟩]⟩]⟩ a7 n7 c7) (T10 : TyA base W ⟨3, [⟨1, []⟩, ⟨1, []⟩]⟩ a10 n10 c10) (T13 : TyA base W ⟨4, [⟨4, [⟨1, []⟩]⟩]⟩ a13 n13 c13) (T16 : TyA base W ⟨4, [⟨1, []⟩]⟩ a16 n16 c16) (z : Nat) (hz : z < 8) :
    ∃ (u : Ty) (ua : Option Addr) (un uc : Nat), W.cell? ⟨b, z * 2, none⟩ = some (.int .i64 u.kind) ∧ W.cell? ⟨b, z * 2 + 1, none⟩ = some (.slice ua un uc) ∧ TyA base W u ua un uc ∧ u.all Ty.formed = true ∧ u.size ≤ 5 := by
  have hN := fun k (hk : i64 k) => TyA.nil base W k hk
  match z, hz with
  | 0, _ => exact ⟨⟨1, []⟩, none, 0, 0, B.cell 0, B.cell 1, hN 1 (by simp [i64]), by decide, by decide⟩
  | 1, _ => exact ⟨⟨2, []⟩, none, 0, 0, B.cell 2, B.cell 3, hN 2 (by simp [i64]), by decide, by decide⟩
  | 2, _ => exact ⟨⟨4, [⟨1, []⟩]⟩, a3, n3, c3, B.cell 4, B.cell 5, T3, by decide, by decide⟩
  | 3, _ => exact ⟨⟨4, [⟨3, [⟨1, []⟩, ⟨1, []⟩]⟩]⟩, a7, n7, c7, B.cell 6, B.cell 7, T7, by decide, by decide⟩
  | 4, _ => exact ⟨⟨3, [⟨1, []⟩, ⟨1, []⟩]⟩, a10, n10, c10, B.cell 8, B.cell 9, T10, by decide, by decide⟩
  | 5, _ => exact ⟨⟨4, [⟨4, [⟨1, []⟩]⟩]⟩, a13, n13, c13, B.cell 10, B.cell 11, T13, by decide, by decide⟩
  | 6, _ => exact ⟨⟨1, []⟩, none, 0, 0, B.cell 12, B.cell 13, hN 1 (by simp [i64]), by decide, by decide⟩
  | 7, _ => exact ⟨⟨4, [⟨1, []⟩]⟩, a16, n16, c16, B.cell 14, B.cell 15, T16, by decide, by decide⟩
  | n + 8, h => omega

/-- One of the eight types of a row. -/
theorem closed_pick {X base b : Nat} {W : World} {a3 a7 a10 a13 a16 : Option Addr} {n3 c3 n7 c7 n10 c10 n13 c13 n16 c16 : Nat}
    (B : Blk W b 26 #[.int .i64 1, .slice none 0 0, .int .i64 2, .slice none 0 0, .int .i64 4, .slice a3 n3 c3, .int .i64 4, .slice a7 n7 c7, .int .i64 3, .slice a10 n10 c10, .int .i64 4, .slice a13 n13 c13, .int .i64 1, .slice none 0 0, .int .i64 4, .slice a16 n16 c16])
    (T3 : TyN X base W ⟨4, [⟨1, []⟩]⟩ a3 n3 c3) (T7 : TyN X base W ⟨4, [⟨3, [⟨1, []⟩, ⟨1, []⟩]⟩]⟩ a7 n7 c7) (T10 : TyN X base W ⟨3, [⟨1, []⟩, ⟨1, []⟩]⟩ a10 n10 c10) (T13 : TyN X base W ⟨4, [⟨4, [⟨1, []⟩]⟩]⟩ a13 n13 c13) (T16 : TyN X base W ⟨4, [⟨1, []⟩]⟩ a16 n16 c16) (z : Nat) (hz : z < 8) :
    ∃ (u : Ty) (ua : Option Addr) (un uc : Nat), W.cell? ⟨b, z * 2, none⟩ = some (.int .i64 u.kind) ∧ W.cell? ⟨b, z * 2 + 1, none⟩ = some (.slice ua un uc) ∧ TyN X base W u ua un uc ∧ u.all Ty.formed = true ∧ u.size ≤ 5 := by
  have hN := fun k (hk : i64 k) => (⟨[], TyAt.nil base W k hk, by simp⟩ : TyN X base W ⟨k, []⟩ none 0 0)
  match z, hz with
  | 0, _ => exact ⟨⟨1, []⟩, none, 0, 0, B.cell 0, B.cell 1, hN 1 (by simp [i64]), by decide, by decide⟩
  | 1, _ => exact ⟨⟨2, []⟩, none, 0, 0, B.cell 2, B.cell 3, hN 2 (by simp [i64]), by decide, by decide⟩
  | 2, _ => exact ⟨⟨4, [⟨1, []⟩]⟩, a3, n3, c3, B.cell 4, B.cell 5, T3, by decide, by decide⟩
  | 3, _ => exact ⟨⟨4, [⟨3, [⟨1, []⟩, ⟨1, []⟩]⟩]⟩, a7, n7, c7, B.cell 6, B.cell 7, T7, by decide, by decide⟩
  | 4, _ => exact ⟨⟨3, [⟨1, []⟩, ⟨1, []⟩]⟩, a10, n10, c10, B.cell 8, B.cell 9, T10, by decide, by decide⟩
  | 5, _ => exact ⟨⟨4, [⟨4, [⟨1, []⟩]⟩]⟩, a13, n13, c13, B.cell 10, B.cell 11, T13, by decide, by decide⟩
  | 6, _ => exact ⟨⟨1, []⟩, none, 0, 0, B.cell 12, B.cell 13, hN 1 (by simp [i64]), by decide, by decide⟩
  | 7, _ => exact ⟨⟨4, [⟨1, []⟩]⟩, a16, n16, c16, B.cell 14, B.cell 15, T16, by decide, by decide⟩
  | n + 8, h => omega

set_option maxHeartbeats 25600000 in
theorem l9Closed_any (p : Nat) (w : World) (hC : Cur w p) : Calls Tryz.prog 19 #[.pointer (some ⟨p, 0, none⟩)] w (DrawsM p 250000 w) := by
  have hlt := hC.lt
  have d0 := Drew.alloc hC (.cells #[.int .i64 0, .string ⟨#[]⟩, .string ⟨#[]⟩, .int .i64 0, .int .i64 0, .slice none 0 0, .int .i64 0, .slice none 0 0, .slice none 0 0] 29)
  have R0 := Blk.new w 29 #[.int .i64 0, .string ⟨#[]⟩, .string ⟨#[]⟩, .int .i64 0, .int .i64 0, .slice none 0 0, .int .i64 0, .slice none 0 0, .slice none 0 0]
  go_enter Tryz.func19, Tryz.ntmps19
  go_upto_region 1 with fail
  generalize w.alloc (.cells #[.int .i64 0, .string ⟨#[]⟩, .string ⟨#[]⟩, .int .i64 0, .int .i64 0, .slice none 0 0, .int .i64 0, .slice none 0 0, .slice none 0 0] 29) = w0 at d0 R0 ⊢
  go_wp2_with fail
  refine (l1Once_any p 4 _ d0.cur (by omega)).mono ?_
  rintro e w1 ⟨b, rfl, d1⟩
  have D1 := d0.trans d1
  have lR := R0.lt
  have R1 : Blk w1 w.heap.size 29 #[.int .i64 0, .string ⟨#[]⟩, .string ⟨#[]⟩, .int .i64 0, .int .i64 0, .slice none 0 0, .int .i64 0, .slice none 0 0, .slice none 0 0] := (d1.block lR (by omega)).trans R0
  have lR1 := R1.lt
  clear R0
  cases b with
  | true =>
    go_wp2_with fail
    refine (l9Sample_any p w1 D1.cur).mono ?_
    rintro e w2 ⟨t3, l3, rfl, O3, hw3, d3⟩
    have D3 := D1.trans d3
    have RB : Blk w2 w.heap.size 29 #[.int .i64 0, .string ⟨#[]⟩, .string ⟨#[]⟩, .int .i64 0, .int .i64 0, .slice none 0 0, .int .i64 0, .slice none 0 0, .slice none 0 0] := (d3.block lR1 (by omega)).trans R1
    have HD := hide (DrawsM.mk (N := 250000) rfl hC (O3.base (show w.heap.size + 1 ≤ w1.heap.size by omega)) (by omega) (by omega) D3)
    have HB := hide (put_box RB rfl t3 l3).nine
    obtain ⟨q0, q1, q2, q3, q4, q5, q6, q7, q8⟩ : _ ∧ _ ∧ _ ∧ _ ∧ _ ∧ _ ∧ _ ∧ _ ∧ _ := ⟨RB.cell 0, RB.cell 1, RB.cell 2, RB.cell 3, RB.cell 4, RB.cell 5, RB.cell 6, RB.cell 7, RB.cell 8⟩
    simp at q0 q1 q2 q3 q4 q5 q6 q7 q8
    obtain ⟨z0, z1, z2, z3, z4, z5, z6, z7, z8⟩ : _ ∧ _ ∧ _ ∧ _ ∧ _ ∧ _ ∧ _ ∧ _ ∧ _ := ⟨RB.free 0, RB.free 1, RB.free 2, RB.free 3, RB.free 4, RB.free 5, RB.free 6, RB.free 7, RB.free 8⟩
    go_wp2_with fail
    have E := putAt_zero w2 w.heap.size t3 l3
    rw [← E]
    obtain ⟨r0, r1, r2, r3, r4, r5, r6, r7, r8⟩ := HB.out
    refine bodyPost_ret (v := .agg #[.int .i64 t3.kind, .string t3.name, .string t3.other, .int .i64 t3.n, .int .i64 t3.type.kind, .slice l3.ta l3.tn l3.tc, .int .i64 t3.res.kind, .slice l3.ra l3.rn l3.rc, .slice l3.aa l3.an l3.ac]) ?_ rfl HD.out
    simp [results, Tryz.results19, go_sem, r0, r1, r2, r3, r4, r5, r6, r7, r8]
  | false =>
    go_wp2_with fail
    refine (l3Int_eq w1).mono ?_
    rintro e w2 ⟨rfl, b2⟩
    have D2 := (D1.next b2).trans (Drew.alloc (D1.next b2).cur (.cells #[.int .i64 1, .slice none 0 0] 26))
    have R2 := (R1.under b2).alloc (.cells #[.int .i64 1, .slice none 0 0] 26)
    have I2 := Blk.new w2 26 #[.int .i64 1, .slice none 0 0]
    have s2 : w2.heap.size < (w2.alloc (.cells #[.int .i64 1, .slice none 0 0] 26)).heap.size := by simp
    have s12 := b2.size
    have hpb : p < w2.heap.size := by omega
    go_upto_region 4 with fail
    generalize w2.alloc (.cells #[.int .i64 1, .slice none 0 0] 26) = w3 at D2 R2 I2 s2 ⊢
    have hR2l := R2.lt
    have hRI : w.heap.size < w2.heap.size := by omega
    have kz : w2.heap.size ≤ w3.heap.size := by omega
    have hi1 : ∀ W, Rd W ⟨1, []⟩ (.int .i64 1) (.slice none 0 0) := fun W => Rd.mk ⟨by omega, by omega⟩ ⟨rfl, Nat.le_refl _, by simp, .inl rfl⟩
    have kd0 := hide (show p < w3.heap.size by omega)
    have HS := hide (fun (W : World) (hW : Drew p w3 W) => (Blk.two (show Blk W w2.heap.size 26 #[.int .i64 1, .slice none 0 0] from (hW.block s2 (by omega)).trans I2) : TwoC w2.heap.size (.int .i64 1) (.slice none 0 0) W))
    have kd := Drew.of_below D2.cur (below_drew w3)
    have hbG : ∀ x : Nat, x < 3 → bndG (3 + x) ≤ 100000 := fun x hx => by
      match x, hx with
      | 0, _ => decide
      | 1, _ => decide
      | 2, _ => decide
    have GEN : ∀ (x : Nat), x < 3 → GenC p (3 + (x : Int)) (3 + x) 100000 := fun x hx base xs a n cap t ta tn tc m W g1 g2 g3 g4 g5 g6 g7 g8 g9 g10 => by
      rw [show (3 : Int) + (x : Int) = ((3 + x : Nat) : Int) by omega]
      exact (l9Gen_any p (3 + x) (by omega) base xs a n cap t ta tn tc m W g1 g2 g3 g4 g5 g6 g7 g8 g9 g10).mono fun e w' ⟨t, l, h1, h2, h3, h4⟩ => ⟨t, l, h1, h2, Nat.le_trans h3 (hbG x hx), h4⟩
    clear hbG
    replace GEN := hide GEN
    clear I2 R1 D1 d0 d1
    go_cut [4] (fun s wx => ∃ (X : Nat) (u : Ty) (ua : Option Addr) (un uc : Nat), s = .pointer (some ⟨X, 0, none⟩) ∧ Blk wx X 26 #[.int .i64 u.kind, .slice ua un uc] ∧ X < wx.heap.size ∧ w3.heap.size ≤ X ∧ TyA w3.heap.size wx u ua un uc ∧ u.all Ty.formed = true ∧ u.size ≤ 5 ∧ Drew p w3 wx)
    case first =>
      refine wp_region_noPanic ?_
      refine wp_region_held_drew (S := (fun W => TwoC w2.heap.size (.int .i64 1) (.slice none 0 0) W)) (by kernel_rfl) ?_ (fun hHeld => ?_)
      · (try dsimp only)
        exact HS.out _ kd
      generalize w3.drew = wn at kd hHeld ⊢
      refine takeW 0 (v := ?_) rfl (by kernel_rfl) (by kernel_rfl) (by kernel_rfl) (fun _ _ _ h => h) (by rfl) (by assumption) ?_ ?_
      rotate_left
      · intro w hSw
        (try dsimp only [TwoC] at hSw)
        go_simp
        (try with_reducible rfl)
      try simp only [Act.put, List.setIfInBounds_toArray, List.set_cons_zero, List.set_cons_succ]
      refine takeW 2 (v := ?_) rfl (by kernel_rfl) (by kernel_rfl) (by kernel_rfl) (fun _ _ _ h => h) (by rfl) (by assumption) ?_ ?_
      rotate_left
      · intro w hSw
        (try dsimp only [TwoC] at hSw)
        go_simp
        (try with_reducible rfl)
      try simp only [Act.put, List.setIfInBounds_toArray, List.set_cons_zero, List.set_cons_succ]
      refine takeW 4 (v := ?_) rfl (by kernel_rfl) (by kernel_rfl) (by kernel_rfl) (fun _ _ _ h => h) (by rfl) (by assumption) ?_ ?_
      rotate_left
      · intro w hSw
        (try dsimp only [TwoC] at hSw)
        go_simp
        (try with_reducible rfl)
      try simp only [Act.put, List.setIfInBounds_toArray, List.set_cons_zero, List.set_cons_succ]
      refine takeW 5 (v := ?_) rfl (by kernel_rfl) (by kernel_rfl) (by kernel_rfl) (fun _ _ _ h => h) (by rfl) (by assumption) ?_ ?_
      rotate_left
      · intro w hSw
        (try dsimp only [TwoC] at hSw)
        go_simp
        (try with_reducible rfl)
      try simp only [Act.put, List.setIfInBounds_toArray, List.set_cons_zero, List.set_cons_succ]
      refine takeW 8 (v := ?_) rfl (by kernel_rfl) (by kernel_rfl) (by kernel_rfl) (fun _ _ _ h => h) (by rfl) (by assumption) ?_ ?_
      rotate_left
      · intro w hSw
        (try dsimp only [TwoC] at hSw)
        go_simp
        (try with_reducible rfl)
      try simp only [Act.put, List.setIfInBounds_toArray, List.set_cons_zero, List.set_cons_succ]
      refine takeW 9 (v := ?_) rfl (by kernel_rfl) (by kernel_rfl) (by kernel_rfl) (fun _ _ _ h => h) (by rfl) (by assumption) ?_ ?_
      rotate_left
      · intro w hSw
        (try dsimp only [TwoC] at hSw)
        go_simp
        (try with_reducible rfl)
      try simp only [Act.put, List.setIfInBounds_toArray, List.set_cons_zero, List.set_cons_succ]
      refine takeW 11 (v := ?_) rfl (by kernel_rfl) (by kernel_rfl) (by kernel_rfl) (fun _ _ _ h => h) (by rfl) (by assumption) ?_ ?_
      rotate_left
      · intro w hSw
        (try dsimp only [TwoC] at hSw)
        go_simp
        (try with_reducible rfl)
      try simp only [Act.put, List.setIfInBounds_toArray, List.set_cons_zero, List.set_cons_succ]
      refine takeW 14 (v := ?_) rfl (by kernel_rfl) (by kernel_rfl) (by kernel_rfl) (fun _ _ _ h => h) (by rfl) (by assumption) ?_ ?_
      rotate_left
      · intro w hSw
        (try dsimp only [TwoC] at hSw)
        go_simp
        (try with_reducible rfl)
      try simp only [Act.put, List.setIfInBounds_toArray, List.set_cons_zero, List.set_cons_succ]
      refine takeW 15 (v := ?_) rfl (by kernel_rfl) (by kernel_rfl) (by kernel_rfl) (fun _ _ _ h => h) (by rfl) (by assumption) ?_ ?_
      rotate_left
      · intro w hSw
        (try dsimp only [TwoC] at hSw)
        go_simp
        (try with_reducible rfl)
      try simp only [Act.put, List.setIfInBounds_toArray, List.set_cons_zero, List.set_cons_succ]
      refine takeW 18 (v := ?_) rfl (by kernel_rfl) (by kernel_rfl) (by kernel_rfl) (fun _ _ _ h => h) (by rfl) (by assumption) ?_ ?_
      rotate_left
      · intro w hSw
        (try dsimp only [TwoC] at hSw)
        go_simp
        (try with_reducible rfl)
      try simp only [Act.put, List.setIfInBounds_toArray, List.set_cons_zero, List.set_cons_succ]
      all_goals first
        | (have hdone := BX
           refine goW 1 rfl (by kernel_rfl) (fun K hK => ?_)
           go_simp
           go_at_call 46; (with_reducible refine (l3Bool_eq _).mono ?_); rintro e wn ⟨rfl, bk⟩; have kd := kd.next bk; have BX := BX.under bk; have hXl := Nat.lt_of_lt_of_le hXl bk.size; clear bk
           refine hK.out _ _ ?_ (fun hHeld => ?_)
           · (try dsimp only)
             exact HS.out _ kd
           clear hK K
           try simp only [Act.put, List.setIfInBounds_toArray, List.set_cons_zero, List.set_cons_succ])
        | (refine goW2 1 22 rfl rfl (by kernel_rfl) (fun K hK => ?_) (fun K hK => ?_)
           go_simp
           go_at_call 46; (with_reducible refine (l3Bool_eq _).mono ?_); rintro e wn ⟨rfl, bk⟩; have kd := kd.next bk; clear bk
           refine hK.out _ _ ?_ (fun hHeld => ?_)
           · (try dsimp only)
             exact HS.out _ kd
           clear hK K
           try simp only [Act.put, List.setIfInBounds_toArray, List.set_cons_zero, List.set_cons_succ]
           rotate_left
           go_simp
           refine hK.out _ _ ?_ (fun hHeld => ?_)
           · (try dsimp only)
             exact HS.out _ (kd.next (below_new _ _))
           clear hK K
           have BX := Blk.new wn 26 #[.int .i64 0, .slice none 0 0]
           have hXl : wn.heap.size < (wn.alloc (.cells #[.int .i64 0, .slice none 0 0] 26)).heap.size := by simp
           have hXz : w3.heap.size ≤ wn.heap.size := kd.size
           have kd := kd.next (below_new wn (.cells #[.int .i64 0, .slice none 0 0] 26))
           generalize hX : wn.heap.size = X at BX hXl hXz  ⊢
           generalize wn.alloc (.cells #[.int .i64 0, .slice none 0 0] 26) = wn at BX hXl kd   ⊢
           clear hX
           try simp only [Act.put, List.setIfInBounds_toArray, List.set_cons_zero, List.set_cons_succ]
           refine goW 1 rfl (by kernel_rfl) (fun K hK => ?_)
           go_simp
           go_at_call 46; (with_reducible refine (l3Bool_eq _).mono ?_); rintro e wn ⟨rfl, bk⟩; have kd := kd.next bk; have BX := BX.under bk; have hXl := Nat.lt_of_lt_of_le hXl bk.size; clear bk
           refine hK.out _ _ ?_ (fun hHeld => ?_)
           · (try dsimp only)
             exact HS.out _ kd
           clear hK K
           try simp only [Act.put, List.setIfInBounds_toArray, List.set_cons_zero, List.set_cons_succ])
        | fail
      all_goals first
        | (have hdone := BX
           refine goW 3 rfl (by kernel_rfl) (fun K hK => ?_)
           go_simp
           go_at_call 47; (with_reducible refine (l3Code_any ⟨1, []⟩ _ _ _ (hi1 _) (by simp [Ty.sizes, Ty.size])).mono ?_); rintro e wn ⟨v3, rfl, o3, bk⟩; obtain ⟨a3, n3, c3, rfl, hr3⟩ := o3.rd; have T3 := (TyA.of_own o3).tyN kd.size hXl; have kd := kd.next bk; have BX := BX.under bk; have hXl := Nat.lt_of_lt_of_le hXl bk.size; clear bk
           refine hK.out _ _ ?_ (fun hHeld => ?_)
           · (try dsimp only)
             exact HS.out _ kd
           clear hK K
           try simp only [Act.put, List.setIfInBounds_toArray, List.set_cons_zero, List.set_cons_succ])
        | (refine goW2 3 22 rfl rfl (by kernel_rfl) (fun K hK => ?_) (fun K hK => ?_)
           go_simp
           go_at_call 47; (with_reducible refine (l3Code_any ⟨1, []⟩ _ _ _ (hi1 _) (by simp [Ty.sizes, Ty.size])).mono ?_); rintro e wn ⟨v3, rfl, o3, bk⟩; obtain ⟨a3, n3, c3, rfl, hr3⟩ := o3.rd; have T3 := (TyA.of_own o3).base kd.size; have kd := kd.next bk; clear bk
           refine hK.out _ _ ?_ (fun hHeld => ?_)
           · (try dsimp only)
             exact HS.out _ kd
           clear hK K
           try simp only [Act.put, List.setIfInBounds_toArray, List.set_cons_zero, List.set_cons_succ]
           rotate_left
           go_simp
           refine hK.out _ _ ?_ (fun hHeld => ?_)
           · (try dsimp only)
             exact HS.out _ (kd.next (below_new _ _))
           clear hK K
           have BX := Blk.new wn 26 #[.int .i64 0, .slice none 0 0]
           have hXl : wn.heap.size < (wn.alloc (.cells #[.int .i64 0, .slice none 0 0] 26)).heap.size := by simp
           have hXz : w3.heap.size ≤ wn.heap.size := kd.size
           have kd := kd.next (below_new wn (.cells #[.int .i64 0, .slice none 0 0] 26))
           generalize hX : wn.heap.size = X at BX hXl hXz  ⊢
           generalize wn.alloc (.cells #[.int .i64 0, .slice none 0 0] 26) = wn at BX hXl kd   ⊢
           clear hX
           try simp only [Act.put, List.setIfInBounds_toArray, List.set_cons_zero, List.set_cons_succ]
           refine goW 3 rfl (by kernel_rfl) (fun K hK => ?_)
           go_simp
           go_at_call 47; (with_reducible refine (l3Code_any ⟨1, []⟩ _ _ _ (hi1 _) (by simp [Ty.sizes, Ty.size])).mono ?_); rintro e wn ⟨v3, rfl, o3, bk⟩; obtain ⟨a3, n3, c3, rfl, hr3⟩ := o3.rd; have T3 := (TyA.of_own o3).tyN kd.size hXl; have kd := kd.next bk; have BX := BX.under bk; have hXl := Nat.lt_of_lt_of_le hXl bk.size; clear bk
           refine hK.out _ _ ?_ (fun hHeld => ?_)
           · (try dsimp only)
             exact HS.out _ kd
           clear hK K
           try simp only [Act.put, List.setIfInBounds_toArray, List.set_cons_zero, List.set_cons_succ])
        | fail
      all_goals first
        | (have hdone := BX
           refine goW 6 rfl (by kernel_rfl) (fun K hK => ?_)
           go_simp
           go_at_call 48; (with_reducible refine (l3Fun_any ⟨1, []⟩ ⟨1, []⟩ _ _ _ _ _ (hi1 _) (hi1 _) (by simp [Ty.sizes, Ty.size]) (by simp [Ty.sizes, Ty.size])).mono ?_); rintro e wn ⟨v6, rfl, o6, bk⟩; obtain ⟨a6, n6, c6, rfl, hr6⟩ := o6.rd; have T3 := T3.keep (Fresh.of_below bk); have kd := kd.next bk; have BX := BX.under bk; have hXl := Nat.lt_of_lt_of_le hXl bk.size; clear bk
           refine hK.out _ _ ?_ (fun hHeld => ?_)
           · (try dsimp only)
             exact HS.out _ kd
           clear hK K
           try simp only [Act.put, List.setIfInBounds_toArray, List.set_cons_zero, List.set_cons_succ])
        | (refine goW2 6 22 rfl rfl (by kernel_rfl) (fun K hK => ?_) (fun K hK => ?_)
           go_simp
           go_at_call 48; (with_reducible refine (l3Fun_any ⟨1, []⟩ ⟨1, []⟩ _ _ _ _ _ (hi1 _) (hi1 _) (by simp [Ty.sizes, Ty.size]) (by simp [Ty.sizes, Ty.size])).mono ?_); rintro e wn ⟨v6, rfl, o6, bk⟩; obtain ⟨a6, n6, c6, rfl, hr6⟩ := o6.rd; have T3 := T3.keep (Fresh.of_below bk); have kd := kd.next bk; clear bk
           refine hK.out _ _ ?_ (fun hHeld => ?_)
           · (try dsimp only)
             exact HS.out _ kd
           clear hK K
           try simp only [Act.put, List.setIfInBounds_toArray, List.set_cons_zero, List.set_cons_succ]
           rotate_left
           go_simp
           refine hK.out _ _ ?_ (fun hHeld => ?_)
           · (try dsimp only)
             exact HS.out _ (kd.next (below_new _ _))
           clear hK K
           have BX := Blk.new wn 26 #[.int .i64 0, .slice none 0 0]
           have hXl : wn.heap.size < (wn.alloc (.cells #[.int .i64 0, .slice none 0 0] 26)).heap.size := by simp
           have hXz : w3.heap.size ≤ wn.heap.size := kd.size
           have T3 := (T3.tyX).keep (Fresh.of_below (below_new _ (.cells #[.int .i64 0, .slice none 0 0] 26)))
           have kd := kd.next (below_new wn (.cells #[.int .i64 0, .slice none 0 0] 26))
           generalize hX : wn.heap.size = X at BX hXl hXz T3 ⊢
           generalize wn.alloc (.cells #[.int .i64 0, .slice none 0 0] 26) = wn at BX hXl kd T3  ⊢
           clear hX
           try simp only [Act.put, List.setIfInBounds_toArray, List.set_cons_zero, List.set_cons_succ]
           refine goW 6 rfl (by kernel_rfl) (fun K hK => ?_)
           go_simp
           go_at_call 48; (with_reducible refine (l3Fun_any ⟨1, []⟩ ⟨1, []⟩ _ _ _ _ _ (hi1 _) (hi1 _) (by simp [Ty.sizes, Ty.size]) (by simp [Ty.sizes, Ty.size])).mono ?_); rintro e wn ⟨v6, rfl, o6, bk⟩; obtain ⟨a6, n6, c6, rfl, hr6⟩ := o6.rd; have T3 := T3.keep (Fresh.of_below bk); have kd := kd.next bk; have BX := BX.under bk; have hXl := Nat.lt_of_lt_of_le hXl bk.size; clear bk
           refine hK.out _ _ ?_ (fun hHeld => ?_)
           · (try dsimp only)
             exact HS.out _ kd
           clear hK K
           try simp only [Act.put, List.setIfInBounds_toArray, List.set_cons_zero, List.set_cons_succ])
        | fail
      all_goals first
        | (have hdone := BX
           refine goW 7 rfl (by kernel_rfl) (fun K hK => ?_)
           go_simp
           go_at_call 47; (with_reducible refine (l3Code_any ⟨3, [⟨1, []⟩, ⟨1, []⟩]⟩ _ _ _ hr6 (by simp [Ty.sizes, Ty.size])).mono ?_); rintro e wn ⟨v7, rfl, o7, bk⟩; obtain ⟨a7, n7, c7, rfl, hr7⟩ := o7.rd; have T7 := (TyA.of_own o7).tyN kd.size hXl; have T3 := T3.keep (Fresh.of_below bk); have kd := kd.next bk; have BX := BX.under bk; have hXl := Nat.lt_of_lt_of_le hXl bk.size; clear bk
           refine hK.out _ _ ?_ (fun hHeld => ?_)
           · (try dsimp only)
             exact HS.out _ kd
           clear hK K
           try simp only [Act.put, List.setIfInBounds_toArray, List.set_cons_zero, List.set_cons_succ])
        | (refine goW2 7 22 rfl rfl (by kernel_rfl) (fun K hK => ?_) (fun K hK => ?_)
           go_simp
           go_at_call 47; (with_reducible refine (l3Code_any ⟨3, [⟨1, []⟩, ⟨1, []⟩]⟩ _ _ _ hr6 (by simp [Ty.sizes, Ty.size])).mono ?_); rintro e wn ⟨v7, rfl, o7, bk⟩; obtain ⟨a7, n7, c7, rfl, hr7⟩ := o7.rd; have T7 := (TyA.of_own o7).base kd.size; have T3 := T3.keep (Fresh.of_below bk); have kd := kd.next bk; clear bk
           refine hK.out _ _ ?_ (fun hHeld => ?_)
           · (try dsimp only)
             exact HS.out _ kd
           clear hK K
           try simp only [Act.put, List.setIfInBounds_toArray, List.set_cons_zero, List.set_cons_succ]
           rotate_left
           go_simp
           refine hK.out _ _ ?_ (fun hHeld => ?_)
           · (try dsimp only)
             exact HS.out _ (kd.next (below_new _ _))
           clear hK K
           have BX := Blk.new wn 26 #[.int .i64 0, .slice none 0 0]
           have hXl : wn.heap.size < (wn.alloc (.cells #[.int .i64 0, .slice none 0 0] 26)).heap.size := by simp
           have hXz : w3.heap.size ≤ wn.heap.size := kd.size
           have T3 := (T3.tyX).keep (Fresh.of_below (below_new _ (.cells #[.int .i64 0, .slice none 0 0] 26)))
           have hr6 := hr6.below (below_new wn (.cells #[.int .i64 0, .slice none 0 0] 26))
           have kd := kd.next (below_new wn (.cells #[.int .i64 0, .slice none 0 0] 26))
           generalize hX : wn.heap.size = X at BX hXl hXz T3 ⊢
           generalize wn.alloc (.cells #[.int .i64 0, .slice none 0 0] 26) = wn at BX hXl kd T3 hr6 ⊢
           clear hX
           try simp only [Act.put, List.setIfInBounds_toArray, List.set_cons_zero, List.set_cons_succ]
           refine goW 7 rfl (by kernel_rfl) (fun K hK => ?_)
           go_simp
           go_at_call 47; (with_reducible refine (l3Code_any ⟨3, [⟨1, []⟩, ⟨1, []⟩]⟩ _ _ _ hr6 (by simp [Ty.sizes, Ty.size])).mono ?_); rintro e wn ⟨v7, rfl, o7, bk⟩; obtain ⟨a7, n7, c7, rfl, hr7⟩ := o7.rd; have T7 := (TyA.of_own o7).tyN kd.size hXl; have T3 := T3.keep (Fresh.of_below bk); have kd := kd.next bk; have BX := BX.under bk; have hXl := Nat.lt_of_lt_of_le hXl bk.size; clear bk
           refine hK.out _ _ ?_ (fun hHeld => ?_)
           · (try dsimp only)
             exact HS.out _ kd
           clear hK K
           try simp only [Act.put, List.setIfInBounds_toArray, List.set_cons_zero, List.set_cons_succ])
        | fail
      all_goals first
        | (have hdone := BX
           refine goW 10 rfl (by kernel_rfl) (fun K hK => ?_)
           go_simp
           go_at_call 48; (with_reducible refine (l3Fun_any ⟨1, []⟩ ⟨1, []⟩ _ _ _ _ _ (hi1 _) (hi1 _) (by simp [Ty.sizes, Ty.size]) (by simp [Ty.sizes, Ty.size])).mono ?_); rintro e wn ⟨v10, rfl, o10, bk⟩; obtain ⟨a10, n10, c10, rfl, hr10⟩ := o10.rd; have T10 := (TyA.of_own o10).tyN kd.size hXl; have T3 := T3.keep (Fresh.of_below bk); have T7 := T7.keep (Fresh.of_below bk); have kd := kd.next bk; have BX := BX.under bk; have hXl := Nat.lt_of_lt_of_le hXl bk.size; clear bk
           refine hK.out _ _ ?_ (fun hHeld => ?_)
           · (try dsimp only)
             exact HS.out _ kd
           clear hK K
           try simp only [Act.put, List.setIfInBounds_toArray, List.set_cons_zero, List.set_cons_succ])
        | (refine goW2 10 22 rfl rfl (by kernel_rfl) (fun K hK => ?_) (fun K hK => ?_)
           go_simp
           go_at_call 48; (with_reducible refine (l3Fun_any ⟨1, []⟩ ⟨1, []⟩ _ _ _ _ _ (hi1 _) (hi1 _) (by simp [Ty.sizes, Ty.size]) (by simp [Ty.sizes, Ty.size])).mono ?_); rintro e wn ⟨v10, rfl, o10, bk⟩; obtain ⟨a10, n10, c10, rfl, hr10⟩ := o10.rd; have T10 := (TyA.of_own o10).base kd.size; have T3 := T3.keep (Fresh.of_below bk); have T7 := T7.keep (Fresh.of_below bk); have kd := kd.next bk; clear bk
           refine hK.out _ _ ?_ (fun hHeld => ?_)
           · (try dsimp only)
             exact HS.out _ kd
           clear hK K
           try simp only [Act.put, List.setIfInBounds_toArray, List.set_cons_zero, List.set_cons_succ]
           rotate_left
           go_simp
           refine hK.out _ _ ?_ (fun hHeld => ?_)
           · (try dsimp only)
             exact HS.out _ (kd.next (below_new _ _))
           clear hK K
           have BX := Blk.new wn 26 #[.int .i64 0, .slice none 0 0]
           have hXl : wn.heap.size < (wn.alloc (.cells #[.int .i64 0, .slice none 0 0] 26)).heap.size := by simp
           have hXz : w3.heap.size ≤ wn.heap.size := kd.size
           have T3 := (T3.tyX).keep (Fresh.of_below (below_new _ (.cells #[.int .i64 0, .slice none 0 0] 26)))
           have T7 := (T7.tyX).keep (Fresh.of_below (below_new _ (.cells #[.int .i64 0, .slice none 0 0] 26)))
           have kd := kd.next (below_new wn (.cells #[.int .i64 0, .slice none 0 0] 26))
           generalize hX : wn.heap.size = X at BX hXl hXz T3 T7 ⊢
           generalize wn.alloc (.cells #[.int .i64 0, .slice none 0 0] 26) = wn at BX hXl kd T3 T7  ⊢
           clear hX
           try simp only [Act.put, List.setIfInBounds_toArray, List.set_cons_zero, List.set_cons_succ]
           refine goW 10 rfl (by kernel_rfl) (fun K hK => ?_)
           go_simp
           go_at_call 48; (with_reducible refine (l3Fun_any ⟨1, []⟩ ⟨1, []⟩ _ _ _ _ _ (hi1 _) (hi1 _) (by simp [Ty.sizes, Ty.size]) (by simp [Ty.sizes, Ty.size])).mono ?_); rintro e wn ⟨v10, rfl, o10, bk⟩; obtain ⟨a10, n10, c10, rfl, hr10⟩ := o10.rd; have T10 := (TyA.of_own o10).tyN kd.size hXl; have T3 := T3.keep (Fresh.of_below bk); have T7 := T7.keep (Fresh.of_below bk); have kd := kd.next bk; have BX := BX.under bk; have hXl := Nat.lt_of_lt_of_le hXl bk.size; clear bk
           refine hK.out _ _ ?_ (fun hHeld => ?_)
           · (try dsimp only)
             exact HS.out _ kd
           clear hK K
           try simp only [Act.put, List.setIfInBounds_toArray, List.set_cons_zero, List.set_cons_succ])
        | fail
      all_goals first
        | (have hdone := BX
           refine goW 12 rfl (by kernel_rfl) (fun K hK => ?_)
           go_simp
           go_at_call 47; (with_reducible refine (l3Code_any ⟨1, []⟩ _ _ _ (hi1 _) (by simp [Ty.sizes, Ty.size])).mono ?_); rintro e wn ⟨v12, rfl, o12, bk⟩; obtain ⟨a12, n12, c12, rfl, hr12⟩ := o12.rd; have T3 := T3.keep (Fresh.of_below bk); have T7 := T7.keep (Fresh.of_below bk); have T10 := T10.keep (Fresh.of_below bk); have kd := kd.next bk; have BX := BX.under bk; have hXl := Nat.lt_of_lt_of_le hXl bk.size; clear bk
           refine hK.out _ _ ?_ (fun hHeld => ?_)
           · (try dsimp only)
             exact HS.out _ kd
           clear hK K
           try simp only [Act.put, List.setIfInBounds_toArray, List.set_cons_zero, List.set_cons_succ])
        | (refine goW2 12 22 rfl rfl (by kernel_rfl) (fun K hK => ?_) (fun K hK => ?_)
           go_simp
           go_at_call 47; (with_reducible refine (l3Code_any ⟨1, []⟩ _ _ _ (hi1 _) (by simp [Ty.sizes, Ty.size])).mono ?_); rintro e wn ⟨v12, rfl, o12, bk⟩; obtain ⟨a12, n12, c12, rfl, hr12⟩ := o12.rd; have T3 := T3.keep (Fresh.of_below bk); have T7 := T7.keep (Fresh.of_below bk); have T10 := T10.keep (Fresh.of_below bk); have kd := kd.next bk; clear bk
           refine hK.out _ _ ?_ (fun hHeld => ?_)
           · (try dsimp only)
             exact HS.out _ kd
           clear hK K
           try simp only [Act.put, List.setIfInBounds_toArray, List.set_cons_zero, List.set_cons_succ]
           rotate_left
           go_simp
           refine hK.out _ _ ?_ (fun hHeld => ?_)
           · (try dsimp only)
             exact HS.out _ (kd.next (below_new _ _))
           clear hK K
           have BX := Blk.new wn 26 #[.int .i64 0, .slice none 0 0]
           have hXl : wn.heap.size < (wn.alloc (.cells #[.int .i64 0, .slice none 0 0] 26)).heap.size := by simp
           have hXz : w3.heap.size ≤ wn.heap.size := kd.size
           have T3 := (T3.tyX).keep (Fresh.of_below (below_new _ (.cells #[.int .i64 0, .slice none 0 0] 26)))
           have T7 := (T7.tyX).keep (Fresh.of_below (below_new _ (.cells #[.int .i64 0, .slice none 0 0] 26)))
           have T10 := (T10.tyX).keep (Fresh.of_below (below_new _ (.cells #[.int .i64 0, .slice none 0 0] 26)))
           have kd := kd.next (below_new wn (.cells #[.int .i64 0, .slice none 0 0] 26))
           generalize hX : wn.heap.size = X at BX hXl hXz T3 T7 T10 ⊢
           generalize wn.alloc (.cells #[.int .i64 0, .slice none 0 0] 26) = wn at BX hXl kd T3 T7 T10  ⊢
           clear hX
           try simp only [Act.put, List.setIfInBounds_toArray, List.set_cons_zero, List.set_cons_succ]
           refine goW 12 rfl (by kernel_rfl) (fun K hK => ?_)
           go_simp
           go_at_call 47; (with_reducible refine (l3Code_any ⟨1, []⟩ _ _ _ (hi1 _) (by simp [Ty.sizes, Ty.size])).mono ?_); rintro e wn ⟨v12, rfl, o12, bk⟩; obtain ⟨a12, n12, c12, rfl, hr12⟩ := o12.rd; have T3 := T3.keep (Fresh.of_below bk); have T7 := T7.keep (Fresh.of_below bk); have T10 := T10.keep (Fresh.of_below bk); have kd := kd.next bk; have BX := BX.under bk; have hXl := Nat.lt_of_lt_of_le hXl bk.size; clear bk
           refine hK.out _ _ ?_ (fun hHeld => ?_)
           · (try dsimp only)
             exact HS.out _ kd
           clear hK K
           try simp only [Act.put, List.setIfInBounds_toArray, List.set_cons_zero, List.set_cons_succ])
        | fail
      all_goals first
        | (have hdone := BX
           refine goW 13 rfl (by kernel_rfl) (fun K hK => ?_)
           go_simp
           go_at_call 47; (with_reducible refine (l3Code_any ⟨4, [⟨1, []⟩]⟩ _ _ _ hr12 (by simp [Ty.sizes, Ty.size])).mono ?_); rintro e wn ⟨v13, rfl, o13, bk⟩; obtain ⟨a13, n13, c13, rfl, hr13⟩ := o13.rd; have T13 := (TyA.of_own o13).tyN kd.size hXl; have T3 := T3.keep (Fresh.of_below bk); have T7 := T7.keep (Fresh.of_below bk); have T10 := T10.keep (Fresh.of_below bk); have kd := kd.next bk; have BX := BX.under bk; have hXl := Nat.lt_of_lt_of_le hXl bk.size; clear bk
           refine hK.out _ _ ?_ (fun hHeld => ?_)
           · (try dsimp only)
             exact HS.out _ kd
           clear hK K
           try simp only [Act.put, List.setIfInBounds_toArray, List.set_cons_zero, List.set_cons_succ])
        | (refine goW2 13 22 rfl rfl (by kernel_rfl) (fun K hK => ?_) (fun K hK => ?_)
           go_simp
           go_at_call 47; (with_reducible refine (l3Code_any ⟨4, [⟨1, []⟩]⟩ _ _ _ hr12 (by simp [Ty.sizes, Ty.size])).mono ?_); rintro e wn ⟨v13, rfl, o13, bk⟩; obtain ⟨a13, n13, c13, rfl, hr13⟩ := o13.rd; have T13 := (TyA.of_own o13).base kd.size; have T3 := T3.keep (Fresh.of_below bk); have T7 := T7.keep (Fresh.of_below bk); have T10 := T10.keep (Fresh.of_below bk); have kd := kd.next bk; clear bk
           refine hK.out _ _ ?_ (fun hHeld => ?_)
           · (try dsimp only)
             exact HS.out _ kd
           clear hK K
           try simp only [Act.put, List.setIfInBounds_toArray, List.set_cons_zero, List.set_cons_succ]
           rotate_left
           go_simp
           refine hK.out _ _ ?_ (fun hHeld => ?_)
           · (try dsimp only)
             exact HS.out _ (kd.next (below_new _ _))
           clear hK K
           have BX := Blk.new wn 26 #[.int .i64 0, .slice none 0 0]
           have hXl : wn.heap.size < (wn.alloc (.cells #[.int .i64 0, .slice none 0 0] 26)).heap.size := by simp
           have hXz : w3.heap.size ≤ wn.heap.size := kd.size
           have T3 := (T3.tyX).keep (Fresh.of_below (below_new _ (.cells #[.int .i64 0, .slice none 0 0] 26)))
           have T7 := (T7.tyX).keep (Fresh.of_below (below_new _ (.cells #[.int .i64 0, .slice none 0 0] 26)))
           have T10 := (T10.tyX).keep (Fresh.of_below (below_new _ (.cells #[.int .i64 0, .slice none 0 0] 26)))
           have hr12 := hr12.below (below_new wn (.cells #[.int .i64 0, .slice none 0 0] 26))
           have kd := kd.next (below_new wn (.cells #[.int .i64 0, .slice none 0 0] 26))
           generalize hX : wn.heap.size = X at BX hXl hXz T3 T7 T10 ⊢
           generalize wn.alloc (.cells #[.int .i64 0, .slice none 0 0] 26) = wn at BX hXl kd T3 T7 T10 hr12 ⊢
           clear hX
           try simp only [Act.put, List.setIfInBounds_toArray, List.set_cons_zero, List.set_cons_succ]
           refine goW 13 rfl (by kernel_rfl) (fun K hK => ?_)
           go_simp
           go_at_call 47; (with_reducible refine (l3Code_any ⟨4, [⟨1, []⟩]⟩ _ _ _ hr12 (by simp [Ty.sizes, Ty.size])).mono ?_); rintro e wn ⟨v13, rfl, o13, bk⟩; obtain ⟨a13, n13, c13, rfl, hr13⟩ := o13.rd; have T13 := (TyA.of_own o13).tyN kd.size hXl; have T3 := T3.keep (Fresh.of_below bk); have T7 := T7.keep (Fresh.of_below bk); have T10 := T10.keep (Fresh.of_below bk); have kd := kd.next bk; have BX := BX.under bk; have hXl := Nat.lt_of_lt_of_le hXl bk.size; clear bk
           refine hK.out _ _ ?_ (fun hHeld => ?_)
           · (try dsimp only)
             exact HS.out _ kd
           clear hK K
           try simp only [Act.put, List.setIfInBounds_toArray, List.set_cons_zero, List.set_cons_succ])
        | fail
      all_goals first
        | (have hdone := BX
           refine goW 16 rfl (by kernel_rfl) (fun K hK => ?_)
           go_simp
           go_at_call 47; (with_reducible refine (l3Code_any ⟨1, []⟩ _ _ _ (hi1 _) (by simp [Ty.sizes, Ty.size])).mono ?_); rintro e wn ⟨v16, rfl, o16, bk⟩; obtain ⟨a16, n16, c16, rfl, hr16⟩ := o16.rd; have T16 := (TyA.of_own o16).tyN kd.size hXl; have T3 := T3.keep (Fresh.of_below bk); have T7 := T7.keep (Fresh.of_below bk); have T10 := T10.keep (Fresh.of_below bk); have T13 := T13.keep (Fresh.of_below bk); have kd := kd.next bk; have BX := BX.under bk; have hXl := Nat.lt_of_lt_of_le hXl bk.size; clear bk
           refine hK.out _ _ ?_ (fun hHeld => ?_)
           · (try dsimp only)
             exact HS.out _ kd
           clear hK K
           try simp only [Act.put, List.setIfInBounds_toArray, List.set_cons_zero, List.set_cons_succ])
        | (refine goW2 16 22 rfl rfl (by kernel_rfl) (fun K hK => ?_) (fun K hK => ?_)
           go_simp
           go_at_call 47; (with_reducible refine (l3Code_any ⟨1, []⟩ _ _ _ (hi1 _) (by simp [Ty.sizes, Ty.size])).mono ?_); rintro e wn ⟨v16, rfl, o16, bk⟩; obtain ⟨a16, n16, c16, rfl, hr16⟩ := o16.rd; have T16 := (TyA.of_own o16).base kd.size; have T3 := T3.keep (Fresh.of_below bk); have T7 := T7.keep (Fresh.of_below bk); have T10 := T10.keep (Fresh.of_below bk); have T13 := T13.keep (Fresh.of_below bk); have kd := kd.next bk; clear bk
           refine hK.out _ _ ?_ (fun hHeld => ?_)
           · (try dsimp only)
             exact HS.out _ kd
           clear hK K
           try simp only [Act.put, List.setIfInBounds_toArray, List.set_cons_zero, List.set_cons_succ]
           rotate_left
           go_simp
           refine hK.out _ _ ?_ (fun hHeld => ?_)
           · (try dsimp only)
             exact HS.out _ (kd.next (below_new _ _))
           clear hK K
           have BX := Blk.new wn 26 #[.int .i64 0, .slice none 0 0]
           have hXl : wn.heap.size < (wn.alloc (.cells #[.int .i64 0, .slice none 0 0] 26)).heap.size := by simp
           have hXz : w3.heap.size ≤ wn.heap.size := kd.size
           have T3 := (T3.tyX).keep (Fresh.of_below (below_new _ (.cells #[.int .i64 0, .slice none 0 0] 26)))
           have T7 := (T7.tyX).keep (Fresh.of_below (below_new _ (.cells #[.int .i64 0, .slice none 0 0] 26)))
           have T10 := (T10.tyX).keep (Fresh.of_below (below_new _ (.cells #[.int .i64 0, .slice none 0 0] 26)))
           have T13 := (T13.tyX).keep (Fresh.of_below (below_new _ (.cells #[.int .i64 0, .slice none 0 0] 26)))
           have kd := kd.next (below_new wn (.cells #[.int .i64 0, .slice none 0 0] 26))
           generalize hX : wn.heap.size = X at BX hXl hXz T3 T7 T10 T13 ⊢
           generalize wn.alloc (.cells #[.int .i64 0, .slice none 0 0] 26) = wn at BX hXl kd T3 T7 T10 T13  ⊢
           clear hX
           try simp only [Act.put, List.setIfInBounds_toArray, List.set_cons_zero, List.set_cons_succ]
           refine goW 16 rfl (by kernel_rfl) (fun K hK => ?_)
           go_simp
           go_at_call 47; (with_reducible refine (l3Code_any ⟨1, []⟩ _ _ _ (hi1 _) (by simp [Ty.sizes, Ty.size])).mono ?_); rintro e wn ⟨v16, rfl, o16, bk⟩; obtain ⟨a16, n16, c16, rfl, hr16⟩ := o16.rd; have T16 := (TyA.of_own o16).tyN kd.size hXl; have T3 := T3.keep (Fresh.of_below bk); have T7 := T7.keep (Fresh.of_below bk); have T10 := T10.keep (Fresh.of_below bk); have T13 := T13.keep (Fresh.of_below bk); have kd := kd.next bk; have BX := BX.under bk; have hXl := Nat.lt_of_lt_of_le hXl bk.size; clear bk
           refine hK.out _ _ ?_ (fun hHeld => ?_)
           · (try dsimp only)
             exact HS.out _ kd
           clear hK K
           try simp only [Act.put, List.setIfInBounds_toArray, List.set_cons_zero, List.set_cons_succ])
        | fail
      all_goals first
        | (have hdone := BX
           refine goW2 17 19 rfl rfl (by kernel_rfl) (fun K hK => ?_) (fun K hK => ?_)
           go_simp
           refine hK.out _ _ ?_ (fun hHeld => ?_)
           · (try dsimp only)
             exact HS.out _ (kd.next (below_new _ _))
           clear hK K
           have BR := Blk.new wn 26 #[.int .i64 1, .slice none 0 0, .int .i64 2, .slice none 0 0, .int .i64 4, .slice a3 n3 c3, .int .i64 4, .slice a7 n7 c7, .int .i64 3, .slice a10 n10 c10, .int .i64 4, .slice a13 n13 c13, .int .i64 1, .slice none 0 0, .int .i64 4, .slice a16 n16 c16]
           have hGl : wn.heap.size < (wn.alloc (.cells #[.int .i64 1, .slice none 0 0, .int .i64 2, .slice none 0 0, .int .i64 4, .slice a3 n3 c3, .int .i64 4, .slice a7 n7 c7, .int .i64 3, .slice a10 n10 c10, .int .i64 4, .slice a13 n13 c13, .int .i64 1, .slice none 0 0, .int .i64 4, .slice a16 n16 c16] 26)).heap.size := by simp
           have hGz : w3.heap.size ≤ wn.heap.size := kd.size
           have BX := BX.alloc (.cells #[.int .i64 1, .slice none 0 0, .int .i64 2, .slice none 0 0, .int .i64 4, .slice a3 n3 c3, .int .i64 4, .slice a7 n7 c7, .int .i64 3, .slice a10 n10 c10, .int .i64 4, .slice a13 n13 c13, .int .i64 1, .slice none 0 0, .int .i64 4, .slice a16 n16 c16] 26)
           have hXG : X ≠ wn.heap.size := by omega
           have hXl := Nat.lt_trans hXl hGl
           have T3 := T3.keep (Fresh.of_below (below_new _ (.cells #[.int .i64 1, .slice none 0 0, .int .i64 2, .slice none 0 0, .int .i64 4, .slice a3 n3 c3, .int .i64 4, .slice a7 n7 c7, .int .i64 3, .slice a10 n10 c10, .int .i64 4, .slice a13 n13 c13, .int .i64 1, .slice none 0 0, .int .i64 4, .slice a16 n16 c16] 26)))
           have T7 := T7.keep (Fresh.of_below (below_new _ (.cells #[.int .i64 1, .slice none 0 0, .int .i64 2, .slice none 0 0, .int .i64 4, .slice a3 n3 c3, .int .i64 4, .slice a7 n7 c7, .int .i64 3, .slice a10 n10 c10, .int .i64 4, .slice a13 n13 c13, .int .i64 1, .slice none 0 0, .int .i64 4, .slice a16 n16 c16] 26)))
           have T10 := T10.keep (Fresh.of_below (below_new _ (.cells #[.int .i64 1, .slice none 0 0, .int .i64 2, .slice none 0 0, .int .i64 4, .slice a3 n3 c3, .int .i64 4, .slice a7 n7 c7, .int .i64 3, .slice a10 n10 c10, .int .i64 4, .slice a13 n13 c13, .int .i64 1, .slice none 0 0, .int .i64 4, .slice a16 n16 c16] 26)))
           have T13 := T13.keep (Fresh.of_below (below_new _ (.cells #[.int .i64 1, .slice none 0 0, .int .i64 2, .slice none 0 0, .int .i64 4, .slice a3 n3 c3, .int .i64 4, .slice a7 n7 c7, .int .i64 3, .slice a10 n10 c10, .int .i64 4, .slice a13 n13 c13, .int .i64 1, .slice none 0 0, .int .i64 4, .slice a16 n16 c16] 26)))
           have T16 := T16.keep (Fresh.of_below (below_new _ (.cells #[.int .i64 1, .slice none 0 0, .int .i64 2, .slice none 0 0, .int .i64 4, .slice a3 n3 c3, .int .i64 4, .slice a7 n7 c7, .int .i64 3, .slice a10 n10 c10, .int .i64 4, .slice a13 n13 c13, .int .i64 1, .slice none 0 0, .int .i64 4, .slice a16 n16 c16] 26)))
           have kd := kd.next (below_new wn (.cells #[.int .i64 1, .slice none 0 0, .int .i64 2, .slice none 0 0, .int .i64 4, .slice a3 n3 c3, .int .i64 4, .slice a7 n7 c7, .int .i64 3, .slice a10 n10 c10, .int .i64 4, .slice a13 n13 c13, .int .i64 1, .slice none 0 0, .int .i64 4, .slice a16 n16 c16] 26))
           generalize hG : wn.heap.size = G at BR hGl hGz hXG T3 T7 T10 T13 T16 ⊢
           generalize wn.alloc (.cells #[.int .i64 1, .slice none 0 0, .int .i64 2, .slice none 0 0, .int .i64 4, .slice a3 n3 c3, .int .i64 4, .slice a7 n7 c7, .int .i64 3, .slice a10 n10 c10, .int .i64 4, .slice a13 n13 c13, .int .i64 1, .slice none 0 0, .int .i64 4, .slice a16 n16 c16] 26) = wn at BR hGl kd BX hXl T3 T7 T10 T13 T16 ⊢
           clear hG
           try simp only [Act.put, List.setIfInBounds_toArray, List.set_cons_zero, List.set_cons_succ]
           rotate_left
           go_simp
           go_at_call 20; (with_reducible refine (l1Below_any p 8 _ kd.cur (by omega)).mono ?_); rintro e wn ⟨z, rfl, hz0, -, dk⟩; have hz8 : z < 8 := (by omega); have T3 := T3.keep (dk.fresh kd0.out); have T7 := T7.keep (dk.fresh kd0.out); have T10 := T10.keep (dk.fresh kd0.out); have T13 := T13.keep (dk.fresh kd0.out); have T16 := T16.keep (dk.fresh kd0.out); have BX : Blk wn X _ _ := (dk.block hXl (by have := kd0.out; omega)).trans BX; have hXl := Nat.lt_of_lt_of_le hXl dk.size; have kd := kd.trans dk; clear dk
           refine hK.out _ _ ?_ (fun hHeld => ?_)
           · (try dsimp only)
             exact HS.out _ kd
           clear hK K
           try simp only [Act.put, List.setIfInBounds_toArray, List.set_cons_zero, List.set_cons_succ])
        | (refine goW3 17 19 22 rfl rfl rfl (by kernel_rfl) (fun K hK => ?_) (fun K hK => ?_) (fun K hK => ?_)
           go_simp
           refine hK.out _ _ ?_ (fun hHeld => ?_)
           · (try dsimp only)
             exact HS.out _ (kd.next (below_new _ _))
           clear hK K
           have BR := Blk.new wn 26 #[.int .i64 1, .slice none 0 0, .int .i64 2, .slice none 0 0, .int .i64 4, .slice a3 n3 c3, .int .i64 4, .slice a7 n7 c7, .int .i64 3, .slice a10 n10 c10, .int .i64 4, .slice a13 n13 c13, .int .i64 1, .slice none 0 0, .int .i64 4, .slice a16 n16 c16]
           have hGl : wn.heap.size < (wn.alloc (.cells #[.int .i64 1, .slice none 0 0, .int .i64 2, .slice none 0 0, .int .i64 4, .slice a3 n3 c3, .int .i64 4, .slice a7 n7 c7, .int .i64 3, .slice a10 n10 c10, .int .i64 4, .slice a13 n13 c13, .int .i64 1, .slice none 0 0, .int .i64 4, .slice a16 n16 c16] 26)).heap.size := by simp
           have hGz : w3.heap.size ≤ wn.heap.size := kd.size
           have T3 := T3.keep (Fresh.of_below (below_new _ (.cells #[.int .i64 1, .slice none 0 0, .int .i64 2, .slice none 0 0, .int .i64 4, .slice a3 n3 c3, .int .i64 4, .slice a7 n7 c7, .int .i64 3, .slice a10 n10 c10, .int .i64 4, .slice a13 n13 c13, .int .i64 1, .slice none 0 0, .int .i64 4, .slice a16 n16 c16] 26)))
           have T7 := T7.keep (Fresh.of_below (below_new _ (.cells #[.int .i64 1, .slice none 0 0, .int .i64 2, .slice none 0 0, .int .i64 4, .slice a3 n3 c3, .int .i64 4, .slice a7 n7 c7, .int .i64 3, .slice a10 n10 c10, .int .i64 4, .slice a13 n13 c13, .int .i64 1, .slice none 0 0, .int .i64 4, .slice a16 n16 c16] 26)))
           have T10 := T10.keep (Fresh.of_below (below_new _ (.cells #[.int .i64 1, .slice none 0 0, .int .i64 2, .slice none 0 0, .int .i64 4, .slice a3 n3 c3, .int .i64 4, .slice a7 n7 c7, .int .i64 3, .slice a10 n10 c10, .int .i64 4, .slice a13 n13 c13, .int .i64 1, .slice none 0 0, .int .i64 4, .slice a16 n16 c16] 26)))
           have T13 := T13.keep (Fresh.of_below (below_new _ (.cells #[.int .i64 1, .slice none 0 0, .int .i64 2, .slice none 0 0, .int .i64 4, .slice a3 n3 c3, .int .i64 4, .slice a7 n7 c7, .int .i64 3, .slice a10 n10 c10, .int .i64 4, .slice a13 n13 c13, .int .i64 1, .slice none 0 0, .int .i64 4, .slice a16 n16 c16] 26)))
           have T16 := T16.keep (Fresh.of_below (below_new _ (.cells #[.int .i64 1, .slice none 0 0, .int .i64 2, .slice none 0 0, .int .i64 4, .slice a3 n3 c3, .int .i64 4, .slice a7 n7 c7, .int .i64 3, .slice a10 n10 c10, .int .i64 4, .slice a13 n13 c13, .int .i64 1, .slice none 0 0, .int .i64 4, .slice a16 n16 c16] 26)))
           have kd := kd.next (below_new wn (.cells #[.int .i64 1, .slice none 0 0, .int .i64 2, .slice none 0 0, .int .i64 4, .slice a3 n3 c3, .int .i64 4, .slice a7 n7 c7, .int .i64 3, .slice a10 n10 c10, .int .i64 4, .slice a13 n13 c13, .int .i64 1, .slice none 0 0, .int .i64 4, .slice a16 n16 c16] 26))
           generalize hG : wn.heap.size = G at BR hGl hGz  T3 T7 T10 T13 T16 ⊢
           generalize wn.alloc (.cells #[.int .i64 1, .slice none 0 0, .int .i64 2, .slice none 0 0, .int .i64 4, .slice a3 n3 c3, .int .i64 4, .slice a7 n7 c7, .int .i64 3, .slice a10 n10 c10, .int .i64 4, .slice a13 n13 c13, .int .i64 1, .slice none 0 0, .int .i64 4, .slice a16 n16 c16] 26) = wn at BR hGl kd  T3 T7 T10 T13 T16 ⊢
           clear hG
           try simp only [Act.put, List.setIfInBounds_toArray, List.set_cons_zero, List.set_cons_succ]
           rotate_left
           go_simp
           go_at_call 20; (with_reducible refine (l1Below_any p 8 _ kd.cur (by omega)).mono ?_); rintro e wn ⟨z, rfl, hz0, -, dk⟩; have hz8 : z < 8 := (by omega); have T3 := T3.keep (dk.fresh kd0.out); have T7 := T7.keep (dk.fresh kd0.out); have T10 := T10.keep (dk.fresh kd0.out); have T13 := T13.keep (dk.fresh kd0.out); have T16 := T16.keep (dk.fresh kd0.out); have kd := kd.trans dk; clear dk
           refine hK.out _ _ ?_ (fun hHeld => ?_)
           · (try dsimp only)
             exact HS.out _ kd
           clear hK K
           try simp only [Act.put, List.setIfInBounds_toArray, List.set_cons_zero, List.set_cons_succ]
           rotate_left
           go_simp
           refine hK.out _ _ ?_ (fun hHeld => ?_)
           · (try dsimp only)
             exact HS.out _ (kd.next (below_new _ _))
           clear hK K
           have BX := Blk.new wn 26 #[.int .i64 0, .slice none 0 0]
           have hXl : wn.heap.size < (wn.alloc (.cells #[.int .i64 0, .slice none 0 0] 26)).heap.size := by simp
           have hXz : w3.heap.size ≤ wn.heap.size := kd.size
           have T3 := (T3.tyX).keep (Fresh.of_below (below_new _ (.cells #[.int .i64 0, .slice none 0 0] 26)))
           have T7 := (T7.tyX).keep (Fresh.of_below (below_new _ (.cells #[.int .i64 0, .slice none 0 0] 26)))
           have T10 := (T10.tyX).keep (Fresh.of_below (below_new _ (.cells #[.int .i64 0, .slice none 0 0] 26)))
           have T13 := (T13.tyX).keep (Fresh.of_below (below_new _ (.cells #[.int .i64 0, .slice none 0 0] 26)))
           have T16 := (T16.tyX).keep (Fresh.of_below (below_new _ (.cells #[.int .i64 0, .slice none 0 0] 26)))
           have kd := kd.next (below_new wn (.cells #[.int .i64 0, .slice none 0 0] 26))
           generalize hX : wn.heap.size = X at BX hXl hXz T3 T7 T10 T13 T16 ⊢
           generalize wn.alloc (.cells #[.int .i64 0, .slice none 0 0] 26) = wn at BX hXl kd T3 T7 T10 T13 T16  ⊢
           clear hX
           try simp only [Act.put, List.setIfInBounds_toArray, List.set_cons_zero, List.set_cons_succ]
           refine goW2 17 19 rfl rfl (by kernel_rfl) (fun K hK => ?_) (fun K hK => ?_)
           go_simp
           refine hK.out _ _ ?_ (fun hHeld => ?_)
           · (try dsimp only)
             exact HS.out _ (kd.next (below_new _ _))
           clear hK K
           have BR := Blk.new wn 26 #[.int .i64 1, .slice none 0 0, .int .i64 2, .slice none 0 0, .int .i64 4, .slice a3 n3 c3, .int .i64 4, .slice a7 n7 c7, .int .i64 3, .slice a10 n10 c10, .int .i64 4, .slice a13 n13 c13, .int .i64 1, .slice none 0 0, .int .i64 4, .slice a16 n16 c16]
           have hGl : wn.heap.size < (wn.alloc (.cells #[.int .i64 1, .slice none 0 0, .int .i64 2, .slice none 0 0, .int .i64 4, .slice a3 n3 c3, .int .i64 4, .slice a7 n7 c7, .int .i64 3, .slice a10 n10 c10, .int .i64 4, .slice a13 n13 c13, .int .i64 1, .slice none 0 0, .int .i64 4, .slice a16 n16 c16] 26)).heap.size := by simp
           have hGz : w3.heap.size ≤ wn.heap.size := kd.size
           have BX := BX.alloc (.cells #[.int .i64 1, .slice none 0 0, .int .i64 2, .slice none 0 0, .int .i64 4, .slice a3 n3 c3, .int .i64 4, .slice a7 n7 c7, .int .i64 3, .slice a10 n10 c10, .int .i64 4, .slice a13 n13 c13, .int .i64 1, .slice none 0 0, .int .i64 4, .slice a16 n16 c16] 26)
           have hXG : X ≠ wn.heap.size := by omega
           have hXl := Nat.lt_trans hXl hGl
           have T3 := T3.keep (Fresh.of_below (below_new _ (.cells #[.int .i64 1, .slice none 0 0, .int .i64 2, .slice none 0 0, .int .i64 4, .slice a3 n3 c3, .int .i64 4, .slice a7 n7 c7, .int .i64 3, .slice a10 n10 c10, .int .i64 4, .slice a13 n13 c13, .int .i64 1, .slice none 0 0, .int .i64 4, .slice a16 n16 c16] 26)))
           have T7 := T7.keep (Fresh.of_below (below_new _ (.cells #[.int .i64 1, .slice none 0 0, .int .i64 2, .slice none 0 0, .int .i64 4, .slice a3 n3 c3, .int .i64 4, .slice a7 n7 c7, .int .i64 3, .slice a10 n10 c10, .int .i64 4, .slice a13 n13 c13, .int .i64 1, .slice none 0 0, .int .i64 4, .slice a16 n16 c16] 26)))
           have T10 := T10.keep (Fresh.of_below (below_new _ (.cells #[.int .i64 1, .slice none 0 0, .int .i64 2, .slice none 0 0, .int .i64 4, .slice a3 n3 c3, .int .i64 4, .slice a7 n7 c7, .int .i64 3, .slice a10 n10 c10, .int .i64 4, .slice a13 n13 c13, .int .i64 1, .slice none 0 0, .int .i64 4, .slice a16 n16 c16] 26)))
           have T13 := T13.keep (Fresh.of_below (below_new _ (.cells #[.int .i64 1, .slice none 0 0, .int .i64 2, .slice none 0 0, .int .i64 4, .slice a3 n3 c3, .int .i64 4, .slice a7 n7 c7, .int .i64 3, .slice a10 n10 c10, .int .i64 4, .slice a13 n13 c13, .int .i64 1, .slice none 0 0, .int .i64 4, .slice a16 n16 c16] 26)))
           have T16 := T16.keep (Fresh.of_below (below_new _ (.cells #[.int .i64 1, .slice none 0 0, .int .i64 2, .slice none 0 0, .int .i64 4, .slice a3 n3 c3, .int .i64 4, .slice a7 n7 c7, .int .i64 3, .slice a10 n10 c10, .int .i64 4, .slice a13 n13 c13, .int .i64 1, .slice none 0 0, .int .i64 4, .slice a16 n16 c16] 26)))
           have kd := kd.next (below_new wn (.cells #[.int .i64 1, .slice none 0 0, .int .i64 2, .slice none 0 0, .int .i64 4, .slice a3 n3 c3, .int .i64 4, .slice a7 n7 c7, .int .i64 3, .slice a10 n10 c10, .int .i64 4, .slice a13 n13 c13, .int .i64 1, .slice none 0 0, .int .i64 4, .slice a16 n16 c16] 26))
           generalize hG : wn.heap.size = G at BR hGl hGz hXG T3 T7 T10 T13 T16 ⊢
           generalize wn.alloc (.cells #[.int .i64 1, .slice none 0 0, .int .i64 2, .slice none 0 0, .int .i64 4, .slice a3 n3 c3, .int .i64 4, .slice a7 n7 c7, .int .i64 3, .slice a10 n10 c10, .int .i64 4, .slice a13 n13 c13, .int .i64 1, .slice none 0 0, .int .i64 4, .slice a16 n16 c16] 26) = wn at BR hGl kd BX hXl T3 T7 T10 T13 T16 ⊢
           clear hG
           try simp only [Act.put, List.setIfInBounds_toArray, List.set_cons_zero, List.set_cons_succ]
           rotate_left
           go_simp
           go_at_call 20; (with_reducible refine (l1Below_any p 8 _ kd.cur (by omega)).mono ?_); rintro e wn ⟨z, rfl, hz0, -, dk⟩; have hz8 : z < 8 := (by omega); have T3 := T3.keep (dk.fresh kd0.out); have T7 := T7.keep (dk.fresh kd0.out); have T10 := T10.keep (dk.fresh kd0.out); have T13 := T13.keep (dk.fresh kd0.out); have T16 := T16.keep (dk.fresh kd0.out); have BX : Blk wn X _ _ := (dk.block hXl (by have := kd0.out; omega)).trans BX; have hXl := Nat.lt_of_lt_of_le hXl dk.size; have kd := kd.trans dk; clear dk
           refine hK.out _ _ ?_ (fun hHeld => ?_)
           · (try dsimp only)
             exact HS.out _ kd
           clear hK K
           try simp only [Act.put, List.setIfInBounds_toArray, List.set_cons_zero, List.set_cons_succ])
        | fail
      all_goals first
        | (have hdone := BX
           have hrow := BR
           refine goW 19 rfl (by kernel_rfl) (fun K hK => ?_)
           go_simp
           go_at_call 20; (with_reducible refine (l1Below_any p 8 _ kd.cur (by omega)).mono ?_); rintro e wn ⟨z, rfl, hz0, -, dk⟩; have hz8 : z < 8 := (by omega); have T3 := T3.keep (dk.fresh kd0.out); have T7 := T7.keep (dk.fresh kd0.out); have T10 := T10.keep (dk.fresh kd0.out); have T13 := T13.keep (dk.fresh kd0.out); have T16 := T16.keep (dk.fresh kd0.out); have BX : Blk wn X _ _ := (dk.block hXl (by have := kd0.out; omega)).trans BX; have hXl := Nat.lt_of_lt_of_le hXl dk.size; have BR : Blk wn G _ _ := (dk.block hGl (by have := kd0.out; omega)).trans BR; have hGl := Nat.lt_of_lt_of_le hGl dk.size; have kd := kd.trans dk; clear dk
           refine hK.out _ _ ?_ (fun hHeld => ?_)
           · (try dsimp only)
             exact HS.out _ kd
           clear hK K
           try simp only [Act.put, List.setIfInBounds_toArray, List.set_cons_zero, List.set_cons_succ])
        | (have hdone := BX
           refine goW 17 rfl (by kernel_rfl) (fun K hK => ?_)
           go_simp
           refine hK.out _ _ ?_ (fun hHeld => ?_)
           · (try dsimp only)
             exact HS.out _ (kd.next (below_new _ _))
           clear hK K
           have BR := Blk.new wn 26 #[.int .i64 1, .slice none 0 0, .int .i64 2, .slice none 0 0, .int .i64 4, .slice a3 n3 c3, .int .i64 4, .slice a7 n7 c7, .int .i64 3, .slice a10 n10 c10, .int .i64 4, .slice a13 n13 c13, .int .i64 1, .slice none 0 0, .int .i64 4, .slice a16 n16 c16]
           have hGl : wn.heap.size < (wn.alloc (.cells #[.int .i64 1, .slice none 0 0, .int .i64 2, .slice none 0 0, .int .i64 4, .slice a3 n3 c3, .int .i64 4, .slice a7 n7 c7, .int .i64 3, .slice a10 n10 c10, .int .i64 4, .slice a13 n13 c13, .int .i64 1, .slice none 0 0, .int .i64 4, .slice a16 n16 c16] 26)).heap.size := by simp
           have hGz : w3.heap.size ≤ wn.heap.size := kd.size
           have BX := BX.alloc (.cells #[.int .i64 1, .slice none 0 0, .int .i64 2, .slice none 0 0, .int .i64 4, .slice a3 n3 c3, .int .i64 4, .slice a7 n7 c7, .int .i64 3, .slice a10 n10 c10, .int .i64 4, .slice a13 n13 c13, .int .i64 1, .slice none 0 0, .int .i64 4, .slice a16 n16 c16] 26)
           have hXG : X ≠ wn.heap.size := by omega
           have hXl := Nat.lt_trans hXl hGl
           have T3 := T3.keep (Fresh.of_below (below_new _ (.cells #[.int .i64 1, .slice none 0 0, .int .i64 2, .slice none 0 0, .int .i64 4, .slice a3 n3 c3, .int .i64 4, .slice a7 n7 c7, .int .i64 3, .slice a10 n10 c10, .int .i64 4, .slice a13 n13 c13, .int .i64 1, .slice none 0 0, .int .i64 4, .slice a16 n16 c16] 26)))
           have T7 := T7.keep (Fresh.of_below (below_new _ (.cells #[.int .i64 1, .slice none 0 0, .int .i64 2, .slice none 0 0, .int .i64 4, .slice a3 n3 c3, .int .i64 4, .slice a7 n7 c7, .int .i64 3, .slice a10 n10 c10, .int .i64 4, .slice a13 n13 c13, .int .i64 1, .slice none 0 0, .int .i64 4, .slice a16 n16 c16] 26)))
           have T10 := T10.keep (Fresh.of_below (below_new _ (.cells #[.int .i64 1, .slice none 0 0, .int .i64 2, .slice none 0 0, .int .i64 4, .slice a3 n3 c3, .int .i64 4, .slice a7 n7 c7, .int .i64 3, .slice a10 n10 c10, .int .i64 4, .slice a13 n13 c13, .int .i64 1, .slice none 0 0, .int .i64 4, .slice a16 n16 c16] 26)))
           have T13 := T13.keep (Fresh.of_below (below_new _ (.cells #[.int .i64 1, .slice none 0 0, .int .i64 2, .slice none 0 0, .int .i64 4, .slice a3 n3 c3, .int .i64 4, .slice a7 n7 c7, .int .i64 3, .slice a10 n10 c10, .int .i64 4, .slice a13 n13 c13, .int .i64 1, .slice none 0 0, .int .i64 4, .slice a16 n16 c16] 26)))
           have T16 := T16.keep (Fresh.of_below (below_new _ (.cells #[.int .i64 1, .slice none 0 0, .int .i64 2, .slice none 0 0, .int .i64 4, .slice a3 n3 c3, .int .i64 4, .slice a7 n7 c7, .int .i64 3, .slice a10 n10 c10, .int .i64 4, .slice a13 n13 c13, .int .i64 1, .slice none 0 0, .int .i64 4, .slice a16 n16 c16] 26)))
           have kd := kd.next (below_new wn (.cells #[.int .i64 1, .slice none 0 0, .int .i64 2, .slice none 0 0, .int .i64 4, .slice a3 n3 c3, .int .i64 4, .slice a7 n7 c7, .int .i64 3, .slice a10 n10 c10, .int .i64 4, .slice a13 n13 c13, .int .i64 1, .slice none 0 0, .int .i64 4, .slice a16 n16 c16] 26))
           generalize hG : wn.heap.size = G at BR hGl hGz hXG T3 T7 T10 T13 T16 ⊢
           generalize wn.alloc (.cells #[.int .i64 1, .slice none 0 0, .int .i64 2, .slice none 0 0, .int .i64 4, .slice a3 n3 c3, .int .i64 4, .slice a7 n7 c7, .int .i64 3, .slice a10 n10 c10, .int .i64 4, .slice a13 n13 c13, .int .i64 1, .slice none 0 0, .int .i64 4, .slice a16 n16 c16] 26) = wn at BR hGl kd BX hXl T3 T7 T10 T13 T16 ⊢
           clear hG
           try simp only [Act.put, List.setIfInBounds_toArray, List.set_cons_zero, List.set_cons_succ])
        | (have hrow := BR
           refine goW2 19 22 rfl rfl (by kernel_rfl) (fun K hK => ?_) (fun K hK => ?_)
           go_simp
           go_at_call 20; (with_reducible refine (l1Below_any p 8 _ kd.cur (by omega)).mono ?_); rintro e wn ⟨z, rfl, hz0, -, dk⟩; have hz8 : z < 8 := (by omega); have T3 := T3.keep (dk.fresh kd0.out); have T7 := T7.keep (dk.fresh kd0.out); have T10 := T10.keep (dk.fresh kd0.out); have T13 := T13.keep (dk.fresh kd0.out); have T16 := T16.keep (dk.fresh kd0.out); have BR : Blk wn G _ _ := (dk.block hGl (by have := kd0.out; omega)).trans BR; have hGl := Nat.lt_of_lt_of_le hGl dk.size; have kd := kd.trans dk; clear dk
           refine hK.out _ _ ?_ (fun hHeld => ?_)
           · (try dsimp only)
             exact HS.out _ kd
           clear hK K
           try simp only [Act.put, List.setIfInBounds_toArray, List.set_cons_zero, List.set_cons_succ]
           rotate_left
           go_simp
           refine hK.out _ _ ?_ (fun hHeld => ?_)
           · (try dsimp only)
             exact HS.out _ (kd.next (below_new _ _))
           clear hK K
           have BX := Blk.new wn 26 #[.int .i64 0, .slice none 0 0]
           have hXl : wn.heap.size < (wn.alloc (.cells #[.int .i64 0, .slice none 0 0] 26)).heap.size := by simp
           have hXz : w3.heap.size ≤ wn.heap.size := kd.size
           have T3 := (T3.tyX).keep (Fresh.of_below (below_new _ (.cells #[.int .i64 0, .slice none 0 0] 26)))
           have T7 := (T7.tyX).keep (Fresh.of_below (below_new _ (.cells #[.int .i64 0, .slice none 0 0] 26)))
           have T10 := (T10.tyX).keep (Fresh.of_below (below_new _ (.cells #[.int .i64 0, .slice none 0 0] 26)))
           have T13 := (T13.tyX).keep (Fresh.of_below (below_new _ (.cells #[.int .i64 0, .slice none 0 0] 26)))
           have T16 := (T16.tyX).keep (Fresh.of_below (below_new _ (.cells #[.int .i64 0, .slice none 0 0] 26)))
           have BR := BR.alloc (.cells #[.int .i64 0, .slice none 0 0] 26)
           have hXG : wn.heap.size ≠ G := by omega
           have hGl := Nat.lt_trans hGl hXl
           have kd := kd.next (below_new wn (.cells #[.int .i64 0, .slice none 0 0] 26))
           generalize hX : wn.heap.size = X at BX hXl hXz hXG T3 T7 T10 T13 T16 ⊢
           generalize wn.alloc (.cells #[.int .i64 0, .slice none 0 0] 26) = wn at BX hXl kd BR hGl T3 T7 T10 T13 T16  ⊢
           clear hX
           try simp only [Act.put, List.setIfInBounds_toArray, List.set_cons_zero, List.set_cons_succ]
           refine goW 19 rfl (by kernel_rfl) (fun K hK => ?_)
           go_simp
           go_at_call 20; (with_reducible refine (l1Below_any p 8 _ kd.cur (by omega)).mono ?_); rintro e wn ⟨z, rfl, hz0, -, dk⟩; have hz8 : z < 8 := (by omega); have T3 := T3.keep (dk.fresh kd0.out); have T7 := T7.keep (dk.fresh kd0.out); have T10 := T10.keep (dk.fresh kd0.out); have T13 := T13.keep (dk.fresh kd0.out); have T16 := T16.keep (dk.fresh kd0.out); have BX : Blk wn X _ _ := (dk.block hXl (by have := kd0.out; omega)).trans BX; have hXl := Nat.lt_of_lt_of_le hXl dk.size; have BR : Blk wn G _ _ := (dk.block hGl (by have := kd0.out; omega)).trans BR; have hGl := Nat.lt_of_lt_of_le hGl dk.size; have kd := kd.trans dk; clear dk
           refine hK.out _ _ ?_ (fun hHeld => ?_)
           · (try dsimp only)
             exact HS.out _ kd
           clear hK K
           try simp only [Act.put, List.setIfInBounds_toArray, List.set_cons_zero, List.set_cons_succ])
        | (refine goW2 17 22 rfl rfl (by kernel_rfl) (fun K hK => ?_) (fun K hK => ?_)
           go_simp
           refine hK.out _ _ ?_ (fun hHeld => ?_)
           · (try dsimp only)
             exact HS.out _ (kd.next (below_new _ _))
           clear hK K
           have BR := Blk.new wn 26 #[.int .i64 1, .slice none 0 0, .int .i64 2, .slice none 0 0, .int .i64 4, .slice a3 n3 c3, .int .i64 4, .slice a7 n7 c7, .int .i64 3, .slice a10 n10 c10, .int .i64 4, .slice a13 n13 c13, .int .i64 1, .slice none 0 0, .int .i64 4, .slice a16 n16 c16]
           have hGl : wn.heap.size < (wn.alloc (.cells #[.int .i64 1, .slice none 0 0, .int .i64 2, .slice none 0 0, .int .i64 4, .slice a3 n3 c3, .int .i64 4, .slice a7 n7 c7, .int .i64 3, .slice a10 n10 c10, .int .i64 4, .slice a13 n13 c13, .int .i64 1, .slice none 0 0, .int .i64 4, .slice a16 n16 c16] 26)).heap.size := by simp
           have hGz : w3.heap.size ≤ wn.heap.size := kd.size
           have T3 := T3.keep (Fresh.of_below (below_new _ (.cells #[.int .i64 1, .slice none 0 0, .int .i64 2, .slice none 0 0, .int .i64 4, .slice a3 n3 c3, .int .i64 4, .slice a7 n7 c7, .int .i64 3, .slice a10 n10 c10, .int .i64 4, .slice a13 n13 c13, .int .i64 1, .slice none 0 0, .int .i64 4, .slice a16 n16 c16] 26)))
           have T7 := T7.keep (Fresh.of_below (below_new _ (.cells #[.int .i64 1, .slice none 0 0, .int .i64 2, .slice none 0 0, .int .i64 4, .slice a3 n3 c3, .int .i64 4, .slice a7 n7 c7, .int .i64 3, .slice a10 n10 c10, .int .i64 4, .slice a13 n13 c13, .int .i64 1, .slice none 0 0, .int .i64 4, .slice a16 n16 c16] 26)))
           have T10 := T10.keep (Fresh.of_below (below_new _ (.cells #[.int .i64 1, .slice none 0 0, .int .i64 2, .slice none 0 0, .int .i64 4, .slice a3 n3 c3, .int .i64 4, .slice a7 n7 c7, .int .i64 3, .slice a10 n10 c10, .int .i64 4, .slice a13 n13 c13, .int .i64 1, .slice none 0 0, .int .i64 4, .slice a16 n16 c16] 26)))
           have T13 := T13.keep (Fresh.of_below (below_new _ (.cells #[.int .i64 1, .slice none 0 0, .int .i64 2, .slice none 0 0, .int .i64 4, .slice a3 n3 c3, .int .i64 4, .slice a7 n7 c7, .int .i64 3, .slice a10 n10 c10, .int .i64 4, .slice a13 n13 c13, .int .i64 1, .slice none 0 0, .int .i64 4, .slice a16 n16 c16] 26)))
           have T16 := T16.keep (Fresh.of_below (below_new _ (.cells #[.int .i64 1, .slice none 0 0, .int .i64 2, .slice none 0 0, .int .i64 4, .slice a3 n3 c3, .int .i64 4, .slice a7 n7 c7, .int .i64 3, .slice a10 n10 c10, .int .i64 4, .slice a13 n13 c13, .int .i64 1, .slice none 0 0, .int .i64 4, .slice a16 n16 c16] 26)))
           have kd := kd.next (below_new wn (.cells #[.int .i64 1, .slice none 0 0, .int .i64 2, .slice none 0 0, .int .i64 4, .slice a3 n3 c3, .int .i64 4, .slice a7 n7 c7, .int .i64 3, .slice a10 n10 c10, .int .i64 4, .slice a13 n13 c13, .int .i64 1, .slice none 0 0, .int .i64 4, .slice a16 n16 c16] 26))
           generalize hG : wn.heap.size = G at BR hGl hGz  T3 T7 T10 T13 T16 ⊢
           generalize wn.alloc (.cells #[.int .i64 1, .slice none 0 0, .int .i64 2, .slice none 0 0, .int .i64 4, .slice a3 n3 c3, .int .i64 4, .slice a7 n7 c7, .int .i64 3, .slice a10 n10 c10, .int .i64 4, .slice a13 n13 c13, .int .i64 1, .slice none 0 0, .int .i64 4, .slice a16 n16 c16] 26) = wn at BR hGl kd  T3 T7 T10 T13 T16 ⊢
           clear hG
           try simp only [Act.put, List.setIfInBounds_toArray, List.set_cons_zero, List.set_cons_succ]
           rotate_left
           go_simp
           refine hK.out _ _ ?_ (fun hHeld => ?_)
           · (try dsimp only)
             exact HS.out _ (kd.next (below_new _ _))
           clear hK K
           have BX := Blk.new wn 26 #[.int .i64 0, .slice none 0 0]
           have hXl : wn.heap.size < (wn.alloc (.cells #[.int .i64 0, .slice none 0 0] 26)).heap.size := by simp
           have hXz : w3.heap.size ≤ wn.heap.size := kd.size
           have T3 := (T3.tyX).keep (Fresh.of_below (below_new _ (.cells #[.int .i64 0, .slice none 0 0] 26)))
           have T7 := (T7.tyX).keep (Fresh.of_below (below_new _ (.cells #[.int .i64 0, .slice none 0 0] 26)))
           have T10 := (T10.tyX).keep (Fresh.of_below (below_new _ (.cells #[.int .i64 0, .slice none 0 0] 26)))
           have T13 := (T13.tyX).keep (Fresh.of_below (below_new _ (.cells #[.int .i64 0, .slice none 0 0] 26)))
           have T16 := (T16.tyX).keep (Fresh.of_below (below_new _ (.cells #[.int .i64 0, .slice none 0 0] 26)))
           have kd := kd.next (below_new wn (.cells #[.int .i64 0, .slice none 0 0] 26))
           generalize hX : wn.heap.size = X at BX hXl hXz T3 T7 T10 T13 T16 ⊢
           generalize wn.alloc (.cells #[.int .i64 0, .slice none 0 0] 26) = wn at BX hXl kd T3 T7 T10 T13 T16  ⊢
           clear hX
           try simp only [Act.put, List.setIfInBounds_toArray, List.set_cons_zero, List.set_cons_succ]
           refine goW 17 rfl (by kernel_rfl) (fun K hK => ?_)
           go_simp
           refine hK.out _ _ ?_ (fun hHeld => ?_)
           · (try dsimp only)
             exact HS.out _ (kd.next (below_new _ _))
           clear hK K
           have BR := Blk.new wn 26 #[.int .i64 1, .slice none 0 0, .int .i64 2, .slice none 0 0, .int .i64 4, .slice a3 n3 c3, .int .i64 4, .slice a7 n7 c7, .int .i64 3, .slice a10 n10 c10, .int .i64 4, .slice a13 n13 c13, .int .i64 1, .slice none 0 0, .int .i64 4, .slice a16 n16 c16]
           have hGl : wn.heap.size < (wn.alloc (.cells #[.int .i64 1, .slice none 0 0, .int .i64 2, .slice none 0 0, .int .i64 4, .slice a3 n3 c3, .int .i64 4, .slice a7 n7 c7, .int .i64 3, .slice a10 n10 c10, .int .i64 4, .slice a13 n13 c13, .int .i64 1, .slice none 0 0, .int .i64 4, .slice a16 n16 c16] 26)).heap.size := by simp
           have hGz : w3.heap.size ≤ wn.heap.size := kd.size
           have BX := BX.alloc (.cells #[.int .i64 1, .slice none 0 0, .int .i64 2, .slice none 0 0, .int .i64 4, .slice a3 n3 c3, .int .i64 4, .slice a7 n7 c7, .int .i64 3, .slice a10 n10 c10, .int .i64 4, .slice a13 n13 c13, .int .i64 1, .slice none 0 0, .int .i64 4, .slice a16 n16 c16] 26)
           have hXG : X ≠ wn.heap.size := by omega
           have hXl := Nat.lt_trans hXl hGl
           have T3 := T3.keep (Fresh.of_below (below_new _ (.cells #[.int .i64 1, .slice none 0 0, .int .i64 2, .slice none 0 0, .int .i64 4, .slice a3 n3 c3, .int .i64 4, .slice a7 n7 c7, .int .i64 3, .slice a10 n10 c10, .int .i64 4, .slice a13 n13 c13, .int .i64 1, .slice none 0 0, .int .i64 4, .slice a16 n16 c16] 26)))
           have T7 := T7.keep (Fresh.of_below (below_new _ (.cells #[.int .i64 1, .slice none 0 0, .int .i64 2, .slice none 0 0, .int .i64 4, .slice a3 n3 c3, .int .i64 4, .slice a7 n7 c7, .int .i64 3, .slice a10 n10 c10, .int .i64 4, .slice a13 n13 c13, .int .i64 1, .slice none 0 0, .int .i64 4, .slice a16 n16 c16] 26)))
           have T10 := T10.keep (Fresh.of_below (below_new _ (.cells #[.int .i64 1, .slice none 0 0, .int .i64 2, .slice none 0 0, .int .i64 4, .slice a3 n3 c3, .int .i64 4, .slice a7 n7 c7, .int .i64 3, .slice a10 n10 c10, .int .i64 4, .slice a13 n13 c13, .int .i64 1, .slice none 0 0, .int .i64 4, .slice a16 n16 c16] 26)))
           have T13 := T13.keep (Fresh.of_below (below_new _ (.cells #[.int .i64 1, .slice none 0 0, .int .i64 2, .slice none 0 0, .int .i64 4, .slice a3 n3 c3, .int .i64 4, .slice a7 n7 c7, .int .i64 3, .slice a10 n10 c10, .int .i64 4, .slice a13 n13 c13, .int .i64 1, .slice none 0 0, .int .i64 4, .slice a16 n16 c16] 26)))
           have T16 := T16.keep (Fresh.of_below (below_new _ (.cells #[.int .i64 1, .slice none 0 0, .int .i64 2, .slice none 0 0, .int .i64 4, .slice a3 n3 c3, .int .i64 4, .slice a7 n7 c7, .int .i64 3, .slice a10 n10 c10, .int .i64 4, .slice a13 n13 c13, .int .i64 1, .slice none 0 0, .int .i64 4, .slice a16 n16 c16] 26)))
           have kd := kd.next (below_new wn (.cells #[.int .i64 1, .slice none 0 0, .int .i64 2, .slice none 0 0, .int .i64 4, .slice a3 n3 c3, .int .i64 4, .slice a7 n7 c7, .int .i64 3, .slice a10 n10 c10, .int .i64 4, .slice a13 n13 c13, .int .i64 1, .slice none 0 0, .int .i64 4, .slice a16 n16 c16] 26))
           generalize hG : wn.heap.size = G at BR hGl hGz hXG T3 T7 T10 T13 T16 ⊢
           generalize wn.alloc (.cells #[.int .i64 1, .slice none 0 0, .int .i64 2, .slice none 0 0, .int .i64 4, .slice a3 n3 c3, .int .i64 4, .slice a7 n7 c7, .int .i64 3, .slice a10 n10 c10, .int .i64 4, .slice a13 n13 c13, .int .i64 1, .slice none 0 0, .int .i64 4, .slice a16 n16 c16] 26) = wn at BR hGl kd BX hXl T3 T7 T10 T13 T16 ⊢
           clear hG
           try simp only [Act.put, List.setIfInBounds_toArray, List.set_cons_zero, List.set_cons_succ])
        | fail
      all_goals
        have hHeld2 := HS.out _ kd
        refine takeW 20 (v := ?_) rfl (by kernel_rfl) (by kernel_rfl) (by kernel_rfl) (fun _ _ _ h => h) (by rfl) (by assumption) ?_ ?_
        rotate_left
        · intro w hSw
          (try dsimp only [TwoC] at hSw)
          go_simp
          (try with_reducible rfl)
        try simp only [Act.put, List.setIfInBounds_toArray, List.set_cons_zero, List.set_cons_succ]
      all_goals first
        | (have hdone := BX
           obtain ⟨u, ua, un, uc, e0, e1, hTu, hfu, hzu⟩ := closed_pick BR T3 T7 T10 T13 T16 z hz8
           refine goW 21 rfl (by kernel_rfl) (fun K hK => ?_)
           go_simp
           refine hK.out _ _ ?_ (fun hHeld => ?_)
           · (try dsimp only)
             exact HS.out _ kd
           clear hK K
           try simp only [Act.put, List.setIfInBounds_toArray, List.set_cons_zero, List.set_cons_succ])
        | (obtain ⟨u, ua, un, uc, e0, e1, hTu, hfu, hzu⟩ := closed_pick0 BR T3 T7 T10 T13 T16 z hz8
           refine goW2 21 22 rfl rfl (by kernel_rfl) (fun K hK => ?_) (fun K hK => ?_)
           go_simp
           refine hK.out _ _ ?_ (fun hHeld => ?_)
           · (try dsimp only)
             exact HS.out _ kd
           clear hK K
           try simp only [Act.put, List.setIfInBounds_toArray, List.set_cons_zero, List.set_cons_succ]
           refine goW 22 rfl (by kernel_rfl) (fun K hK => ?_)
           go_simp
           refine hK.out _ _ ?_ (fun hHeld => ?_)
           · (try dsimp only)
             exact HS.out _ (kd.next (below_new _ _))
           clear hK K
           have BX := Blk.new wn 26 #[.int .i64 0, .slice none 0 0]
           have hXl : wn.heap.size < (wn.alloc (.cells #[.int .i64 0, .slice none 0 0] 26)).heap.size := by simp
           have hXz : w3.heap.size ≤ wn.heap.size := kd.size
           have hTu := (hTu.tyX).keep (Fresh.of_below (below_new _ (.cells #[.int .i64 0, .slice none 0 0] 26)))
           have e0 := (World.cell?_alloc_some wn _ (.cells #[.int .i64 0, .slice none 0 0] 26) (by rw [e0]; rfl)).trans e0
           have e1 := (World.cell?_alloc_some wn _ (.cells #[.int .i64 0, .slice none 0 0] 26) (by rw [e1]; rfl)).trans e1
           have kd := kd.next (below_new wn (.cells #[.int .i64 0, .slice none 0 0] 26))
           generalize hX : wn.heap.size = X at BX hXl hXz hTu ⊢
           generalize wn.alloc (.cells #[.int .i64 0, .slice none 0 0] 26) = wn at BX hXl kd hTu e0 e1 ⊢
           clear hX
           try simp only [Act.put, List.setIfInBounds_toArray, List.set_cons_zero, List.set_cons_succ]
           rotate_left
           go_simp
           refine hK.out _ _ ?_ (fun hHeld => ?_)
           · (try dsimp only)
             exact HS.out _ (kd.next (below_new _ _))
           clear hK K
           have BX := Blk.new wn 26 #[.int .i64 0, .slice none 0 0]
           have hXl : wn.heap.size < (wn.alloc (.cells #[.int .i64 0, .slice none 0 0] 26)).heap.size := by simp
           have hXz : w3.heap.size ≤ wn.heap.size := kd.size
           have hTu := (hTu.tyX).keep (Fresh.of_below (below_new _ (.cells #[.int .i64 0, .slice none 0 0] 26)))
           have e0 := (World.cell?_alloc_some wn _ (.cells #[.int .i64 0, .slice none 0 0] 26) (by rw [e0]; rfl)).trans e0
           have e1 := (World.cell?_alloc_some wn _ (.cells #[.int .i64 0, .slice none 0 0] 26) (by rw [e1]; rfl)).trans e1
           have kd := kd.next (below_new wn (.cells #[.int .i64 0, .slice none 0 0] 26))
           generalize hX : wn.heap.size = X at BX hXl hXz hTu ⊢
           generalize wn.alloc (.cells #[.int .i64 0, .slice none 0 0] 26) = wn at BX hXl kd hTu e0 e1 ⊢
           clear hX
           try simp only [Act.put, List.setIfInBounds_toArray, List.set_cons_zero, List.set_cons_succ]
           refine goW 21 rfl (by kernel_rfl) (fun K hK => ?_)
           go_simp
           refine hK.out _ _ ?_ (fun hHeld => ?_)
           · (try dsimp only)
             exact HS.out _ kd
           clear hK K
           try simp only [Act.put, List.setIfInBounds_toArray, List.set_cons_zero, List.set_cons_succ])
        | fail
      all_goals
        clear T3 T7 T10 T13 T16 BR e0 e1
        have hXI : w2.heap.size ≠ X := by omega
        have x0 := BX.cell 0
        have x1 := BX.cell 1
        have y0 := BX.free 0
        have y1 := BX.free 1
        simp at x0 x1
        refine goW 23 rfl (by kernel_rfl) (fun K hK => ?_)
        go_simp
        refine hK.out _ _ ?_ (fun hHeld => ?_)
        · (try dsimp only)
          exact twoC_set hXI (twoC_set hXI (HS.out _ kd))
        clear hK K
        try simp only [Act.put, List.setIfInBounds_toArray, List.set_cons_zero, List.set_cons_succ]
        refine wpAnyH_done (by kernel_rfl) ?_ _
        refine NoPanic.normal ?_
        go_wp2_with fail
        go_meet
        exact ⟨X, u, ua, un, uc, rfl, (BX.set_ 0 (.int .i64 u.kind)).set_ 1 (.slice ua un uc), by simpa using hXl, hXz, (hTu.sets).tyA, hfu, hzu, (kd.past0 kd0.out hXz (.int .i64 u.kind) (.slice ua un uc))⟩
    case rest =>
      obtain ⟨X, u, ua, un, uc, rfl, X5, s5, hXz, hT5, hfu, hzu, kd⟩ := hcut
      go_upto_region 5 with fail
      have hpX : p < X := by have := kd0.out; omega
      have hXR : X ≠ w.heap.size := by omega
      have kz5 : w3.heap.size ≤ wc.heap.size := kd.size
      clear HS
      have HS := hide (fun (W : World) (hW : Drew p wc W) => (Blk.two (show Blk W X 26 #[.int .i64 u.kind, .slice ua un uc] from (hW.block s5 (by omega)).trans X5) : TwoC X (.int .i64 u.kind) (.slice ua un uc) W))
      have ke := Drew.of_below kd.cur (below_drew wc)
      have D5 := D2.trans kd
      have R5 : Blk wc w.heap.size 29 #[.int .i64 0, .string ⟨#[]⟩, .string ⟨#[]⟩, .int .i64 0, .int .i64 0, .slice none 0 0, .int .i64 0, .slice none 0 0, .slice none 0 0] := (kd.block hR2l (by omega)).trans R2
      clear kd
      refine wp_region_noPanic ?_
      refine wp_region_held_drew (S := (fun W => TwoC X (.int .i64 u.kind) (.slice ua un uc) W)) (by kernel_rfl) ?_ (fun hHeld => ?_)
      · (try dsimp only)
        exact HS.out _ ke
      generalize wc.drew = wm at ke hHeld ⊢
      refine takeW 0 (v := ?_) rfl (by kernel_rfl) (by kernel_rfl) (by kernel_rfl) (fun _ _ _ h => h) (by rfl) (by assumption) ?_ ?_
      rotate_left
      · intro w hSw
        (try dsimp only [TwoC] at hSw)
        go_simp
        (try with_reducible rfl)
      try simp only [Act.put, List.setIfInBounds_toArray, List.set_cons_zero, List.set_cons_succ]
      refine takeW 2 (v := ?_) rfl (by kernel_rfl) (by kernel_rfl) (by kernel_rfl) (fun _ _ _ h => h) (by rfl) (by assumption) ?_ ?_
      rotate_left
      · intro w hSw
        (try dsimp only [TwoC] at hSw)
        go_simp
        (try with_reducible rfl)
      try simp only [Act.put, List.setIfInBounds_toArray, List.set_cons_zero, List.set_cons_succ]
      refine takeW 3 (v := ?_) rfl (by kernel_rfl) (by kernel_rfl) (by kernel_rfl) (fun _ _ _ h => h) (by rfl) (by assumption) ?_ ?_
      rotate_left
      · intro w hSw
        (try dsimp only [TwoC] at hSw)
        go_simp
        (try with_reducible rfl)
      try simp only [Act.put, List.setIfInBounds_toArray, List.set_cons_zero, List.set_cons_succ]
      refine goW2 1 4 rfl rfl (by kernel_rfl) (fun K hK => ?_) (fun K hK => ?_)
      · go_simp
        refine hK.out _ _ ?_ (fun hHeld => ?_)
        · (try dsimp only)
          exact HS.out _ (ke.next (below_new _ _))
        clear hK K
        have ke := ke.next (below_new _ (.cells #[] 88))
        try simp only [Act.put, List.setIfInBounds_toArray, List.set_cons_zero, List.set_cons_succ]
        refine goW 4 rfl (by kernel_rfl) (fun K hK => ?_)
        go_simp
        go_at_call 20; (with_reducible refine (l1Below_any p 3 _ ke.cur (by omega)).mono ?_); rintro e w7 ⟨x, rfl, hx0, -, d7⟩; have hx3 : x < 3 := (by omega); have hwx : IntKind.i64.wrap (3 + (x : Int)) = 3 + (x : Int) := IntWalk.i64_in _ (by omega); have ke := ke.trans d7
        refine hK.out _ _ ?_ (fun hHeld => ?_)
        · (try dsimp only)
          exact HS.out _ ke
        clear hK K
        try simp only [Act.put, List.setIfInBounds_toArray, List.set_cons_zero, List.set_cons_succ]
        have hHeld2 := HS.out _ ke
        refine takeW 5 (v := ?_) rfl (by kernel_rfl) (by kernel_rfl) (by kernel_rfl) (fun _ _ _ h => h) (by rfl) (by assumption) ?_ ?_
        rotate_left
        · intro w hSw
          (try dsimp only [TwoC] at hSw)
          go_simp
          (try with_reducible rfl)
        try simp only [Act.put, List.setIfInBounds_toArray, List.set_cons_zero, List.set_cons_succ]
        refine goW 6 rfl (by kernel_rfl) (fun K hK => ?_)
        go_simp
        go_at_call 49; (with_reducible refine (GEN.out x hx3 w3.heap.size [] _ 0 0 u ua un uc 0 _ ke.cur kd0.out (Nat.le_trans kz5 (Drew.size ke)) (CtxR.nil _ _ _) (by omega) (hT5.keep (ke.fresh kd0.out)) hfu (by omega) (by omega) (by omega)).mono ?_); rintro e w8 ⟨t3, l3, rfl, hO8, hw8, d8⟩; have hO9 := hO8.base (show w.heap.size + 1 ≤ _ by have := Drew.size ke; omega); have ke := ke.trans d8
        refine hK.out _ _ ?_ (fun hHeld => ?_)
        · (try dsimp only)
          exact HS.out _ ke
        clear hK K
        try simp only [Act.put, List.setIfInBounds_toArray, List.set_cons_zero, List.set_cons_succ]
        have D8 := D5.trans ke
        have RB : Blk w8 w.heap.size 29 #[.int .i64 0, .string ⟨#[]⟩, .string ⟨#[]⟩, .int .i64 0, .int .i64 0, .slice none 0 0, .int .i64 0, .slice none 0 0, .slice none 0 0] := (ke.block (by have := R5.lt; omega) (by omega)).trans R5
        have HD := hide (DrawsM.mk (N := 250000) rfl hC hO9 (by omega) (by omega) D8)
        have HB := hide (put_box RB rfl t3 l3).nine
        have HS8 := hide (HS.out _ ke)
        obtain ⟨q0, q1, q2, q3, q4, q5, q6, q7, q8⟩ : _ ∧ _ ∧ _ ∧ _ ∧ _ ∧ _ ∧ _ ∧ _ ∧ _ := ⟨RB.cell 0, RB.cell 1, RB.cell 2, RB.cell 3, RB.cell 4, RB.cell 5, RB.cell 6, RB.cell 7, RB.cell 8⟩
        simp at q0 q1 q2 q3 q4 q5 q6 q7 q8
        obtain ⟨z0, z1, z2, z3, z4, z5, z6, z7, z8⟩ : _ ∧ _ ∧ _ ∧ _ ∧ _ ∧ _ ∧ _ ∧ _ ∧ _ := ⟨RB.free 0, RB.free 1, RB.free 2, RB.free 3, RB.free 4, RB.free 5, RB.free 6, RB.free 7, RB.free 8⟩
        refine goW 7 rfl (by kernel_rfl) (fun K hK => ?_)
        go_simp
        refine hK.out _ _ ?_ (fun hHeld => ?_)
        · (try dsimp only)
          exact twoC_set hXR (twoC_set hXR (twoC_set hXR (twoC_set hXR (twoC_set hXR (twoC_set hXR (twoC_set hXR (twoC_set hXR (twoC_set hXR HS8.out))))))))
        clear hK K
        try simp only [Act.put, List.setIfInBounds_toArray, List.set_cons_zero, List.set_cons_succ]
        refine wpAnyH_done (by kernel_rfl) ?_ _
        refine NoPanic.normal ?_
        go_wp2_with fail
        have E := putAt_zero w8 w.heap.size t3 l3
        rw [← E]
        obtain ⟨r0, r1, r2, r3, r4, r5, r6, r7, r8⟩ := HB.out
        refine bodyPost_ret (v := .agg #[.int .i64 t3.kind, .string t3.name, .string t3.other, .int .i64 t3.n, .int .i64 t3.type.kind, .slice l3.ta l3.tn l3.tc, .int .i64 t3.res.kind, .slice l3.ra l3.rn l3.rc, .slice l3.aa l3.an l3.ac]) ?_ rfl HD.out
        simp [results, Tryz.results19, go_sem, r0, r1, r2, r3, r4, r5, r6, r7, r8]
      · go_simp
        go_at_call 20; (with_reducible refine (l1Below_any p 3 _ ke.cur (by omega)).mono ?_); rintro e w7 ⟨x, rfl, hx0, -, d7⟩; have hx3 : x < 3 := (by omega); have hwx : IntKind.i64.wrap (3 + (x : Int)) = 3 + (x : Int) := IntWalk.i64_in _ (by omega); have ke := ke.trans d7
        refine hK.out _ _ ?_ (fun hHeld => ?_)
        · (try dsimp only)
          exact HS.out _ ke
        clear hK K
        try simp only [Act.put, List.setIfInBounds_toArray, List.set_cons_zero, List.set_cons_succ]
        have hHeld2 := HS.out _ ke
        refine takeW 5 (v := ?_) rfl (by kernel_rfl) (by kernel_rfl) (by kernel_rfl) (fun _ _ _ h => h) (by rfl) (by assumption) ?_ ?_
        rotate_left
        · intro w hSw
          (try dsimp only [TwoC] at hSw)
          go_simp
          (try with_reducible rfl)
        try simp only [Act.put, List.setIfInBounds_toArray, List.set_cons_zero, List.set_cons_succ]
        refine goW 1 rfl (by kernel_rfl) (fun K hK => ?_)
        go_simp
        refine hK.out _ _ ?_ (fun hHeld => ?_)
        · (try dsimp only)
          exact HS.out _ (ke.next (below_new _ _))
        clear hK K
        have ke := ke.next (below_new _ (.cells #[] 88))
        try simp only [Act.put, List.setIfInBounds_toArray, List.set_cons_zero, List.set_cons_succ]
        refine goW 6 rfl (by kernel_rfl) (fun K hK => ?_)
        go_simp
        go_at_call 49; (with_reducible refine (GEN.out x hx3 w3.heap.size [] _ 0 0 u ua un uc 0 _ ke.cur kd0.out (Nat.le_trans kz5 (Drew.size ke)) (CtxR.nil _ _ _) (by omega) (hT5.keep (ke.fresh kd0.out)) hfu (by omega) (by omega) (by omega)).mono ?_); rintro e w8 ⟨t3, l3, rfl, hO8, hw8, d8⟩; have hO9 := hO8.base (show w.heap.size + 1 ≤ _ by have := Drew.size ke; omega); have ke := ke.trans d8
        refine hK.out _ _ ?_ (fun hHeld => ?_)
        · (try dsimp only)
          exact HS.out _ ke
        clear hK K
        try simp only [Act.put, List.setIfInBounds_toArray, List.set_cons_zero, List.set_cons_succ]
        have D8 := D5.trans ke
        have RB : Blk w8 w.heap.size 29 #[.int .i64 0, .string ⟨#[]⟩, .string ⟨#[]⟩, .int .i64 0, .int .i64 0, .slice none 0 0, .int .i64 0, .slice none 0 0, .slice none 0 0] := (ke.block (by have := R5.lt; omega) (by omega)).trans R5
        have HD := hide (DrawsM.mk (N := 250000) rfl hC hO9 (by omega) (by omega) D8)
        have HB := hide (put_box RB rfl t3 l3).nine
        have HS8 := hide (HS.out _ ke)
        obtain ⟨q0, q1, q2, q3, q4, q5, q6, q7, q8⟩ : _ ∧ _ ∧ _ ∧ _ ∧ _ ∧ _ ∧ _ ∧ _ ∧ _ := ⟨RB.cell 0, RB.cell 1, RB.cell 2, RB.cell 3, RB.cell 4, RB.cell 5, RB.cell 6, RB.cell 7, RB.cell 8⟩
        simp at q0 q1 q2 q3 q4 q5 q6 q7 q8
        obtain ⟨z0, z1, z2, z3, z4, z5, z6, z7, z8⟩ : _ ∧ _ ∧ _ ∧ _ ∧ _ ∧ _ ∧ _ ∧ _ ∧ _ := ⟨RB.free 0, RB.free 1, RB.free 2, RB.free 3, RB.free 4, RB.free 5, RB.free 6, RB.free 7, RB.free 8⟩
        refine goW 7 rfl (by kernel_rfl) (fun K hK => ?_)
        go_simp
        refine hK.out _ _ ?_ (fun hHeld => ?_)
        · (try dsimp only)
          exact twoC_set hXR (twoC_set hXR (twoC_set hXR (twoC_set hXR (twoC_set hXR (twoC_set hXR (twoC_set hXR (twoC_set hXR (twoC_set hXR HS8.out))))))))
        clear hK K
        try simp only [Act.put, List.setIfInBounds_toArray, List.set_cons_zero, List.set_cons_succ]
        refine wpAnyH_done (by kernel_rfl) ?_ _
        refine NoPanic.normal ?_
        go_wp2_with fail
        have E := putAt_zero w8 w.heap.size t3 l3
        rw [← E]
        obtain ⟨r0, r1, r2, r3, r4, r5, r6, r7, r8⟩ := HB.out
        refine bodyPost_ret (v := .agg #[.int .i64 t3.kind, .string t3.name, .string t3.other, .int .i64 t3.n, .int .i64 t3.type.kind, .slice l3.ta l3.tn l3.tc, .int .i64 t3.res.kind, .slice l3.ra l3.rn l3.rc, .slice l3.aa l3.an l3.ac]) ?_ rfl HD.out
        simp [results, Tryz.results19, go_sem, r0, r1, r2, r3, r4, r5, r6, r7, r8]
end Go.Proofs.YtklifieahcoljaaGreat
