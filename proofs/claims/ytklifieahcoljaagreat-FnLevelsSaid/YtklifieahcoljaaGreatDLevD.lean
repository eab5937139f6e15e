/-
  The draw of a term and a level: DrawLevelsOk.
-/
import Derived.Test.YtklifieahcoljaaGreatPkEnd
namespace Go.Proofs.YtklifieahcoljaaGreat
open Go.RowKit
set_option maxRecDepth 100000
set_option linter.unusedVariables false
set_option linter.unusedSimpArgs false

/-- What a draw of a term and a level gives. -/
def DrawnL (w : World) (e : Ending) (w' : World) : Prop := ∃ (t : Tm) (l : Lt) (m : Int), e = .returned (.tuple #[.agg #[.int .i64 t.kind, .string t.name, .string t.other, .int .i64 t.n, .int .i64 t.type.kind, .slice l.ta l.tn l.tc, .int .i64 t.res.kind, .slice l.ra l.rn l.rc, .slice l.aa l.an l.ac], .int .i64 m]) ∧ Md w' t l ∧ t.wt ≤ 250000 ∧ -1 ≤ m ∧ m ≤ 3 ∧ Below w.heap.size w w'
set_option maxHeartbeats 12800000 in
theorem drawLevelsOk_any (a : Option Addr) (n cap : Nat) (w : World) (h : Rbs w a n cap) : Calls Tryz.prog 5 #[.slice a n cap] w (DrawnL w) := by
  have B0 := Blk.new w 29 #[.int .i64 0, .string ⟨#[]⟩, .string ⟨#[]⟩, .int .i64 0, .int .i64 0, .slice none 0 0, .int .i64 0, .slice none 0 0, .slice none 0 0]
  go_enter Tryz.func5, Tryz.ntmps5
  go_wp2_with fail
  refine (l1New_any a n cap _ (h.below (below_new _ _))).mono ?_
  rintro e w1 ⟨p, rfl, hp, hC, b1⟩
  have B1 := B0.under b1
  simp at hp
  have hp := hide hp
  have lC := hC.lt
  have lB1 := B1.lt
  go_wp2_with fail
  refine (l5Bent_any p w1 hC).mono ?_
  rintro e w2 ⟨t, l, rfl, ho, hs, d2⟩
  have hpR : p ≠ w.heap.size := by have := hp.out; omega
  have B2 : Blk w2 w.heap.size _ _ := (d2.block lB1 (by omega)).trans B1
  have s2 := d2.size
  have L3 := LaidM.of_own ho s2
  have k1 := below_of_alloc b1
  have B3 := B2.alloc (.cells #[.int .i64 t.kind, .string t.name, .string t.other, .int .i64 t.n, .int .i64 t.type.kind, .slice l.ta l.tn l.tc, .int .i64 t.res.kind, .slice l.ra l.rn l.rc, .slice l.aa l.an l.ac] 29)
  have D3 := d2.trans (Drew.alloc d2.cur (.cells #[.int .i64 t.kind, .string t.name, .string t.other, .int .i64 t.n, .int .i64 t.type.kind, .slice l.ta l.tn l.tc, .int .i64 t.res.kind, .slice l.ra l.rn l.rc, .slice l.aa l.an l.ac] 29))
  have hw3 : w2.heap.size < (w2.alloc (.cells #[.int .i64 t.kind, .string t.name, .string t.other, .int .i64 t.n, .int .i64 t.type.kind, .slice l.ta l.tn l.tc, .int .i64 t.res.kind, .slice l.ra l.rn l.rc, .slice l.aa l.an l.ac] 29)).heap.size := by simp
  go_upto_region 3 with fail
  generalize w2.alloc (.cells #[.int .i64 t.kind, .string t.name, .string t.other, .int .i64 t.n, .int .i64 t.type.kind, .slice l.ta l.tn l.tc, .int .i64 t.res.kind, .slice l.ra l.rn l.rc, .slice l.aa l.an l.ac] 29) = w3 at L3 B3 D3 hw3 ⊢
  generalize hX : w2.heap.size = X at L3 hw3 ⊢
  have hXw : w1.heap.size ≤ X := by omega
  go_wp2_with fail
  refine (l1Once_any p 2 _ D3.cur (by omega)).mono ?_
  rintro e w4 ⟨b, rfl, d4⟩
  have L4 := L3.keep (d4.fresh (by omega))
  have lB3 := B3.lt
  have B4 : Blk w4 w.heap.size 29 #[.int .i64 0, .string ⟨#[]⟩, .string ⟨#[]⟩, .int .i64 0, .int .i64 0, .slice none 0 0, .int .i64 0, .slice none 0 0, .slice none 0 0] := (d4.block lB3 (by omega)).trans B3
  have D4 := D3.trans d4
  have hX4 := Nat.lt_of_lt_of_le hw3 d4.size
  clear L3 B3 D3 B2 B1 B0 d2 d4 ho hw3
  go_upto_if 11 with fail
  go_cut [] (fun wx => ∃ (t : Tm) (l : Lt), Blk wx X 29 #[.int .i64 t.kind, .string t.name, .string t.other, .int .i64 t.n, .int .i64 t.type.kind, .slice l.ta l.tn l.tc, .int .i64 t.res.kind, .slice l.ra l.rn l.rc, .slice l.aa l.an l.ac] ∧ OwnM w1.heap.size wx t l ∧ t.wt ≤ 250000 ∧ Blk wx w.heap.size 29 #[.int .i64 0, .string ⟨#[]⟩, .string ⟨#[]⟩, .int .i64 0, .int .i64 0, .slice none 0 0, .int .i64 0, .slice none 0 0, .slice none 0 0] ∧ Drew p w1 wx ∧ X < wx.heap.size)
  case first =>
    cases b with
    | true =>
      go_wp2_with fail
      refine (l9Closed_any p w4 D4.cur).mono ?_
      rintro e w5 ⟨u, m, rfl, ho5, hs5, d5⟩
      have lB4 := B4.lt
      have B5 : Blk w5 w.heap.size 29 #[.int .i64 0, .string ⟨#[]⟩, .string ⟨#[]⟩, .int .i64 0, .int .i64 0, .slice none 0 0, .int .i64 0, .slice none 0 0, .slice none 0 0] := (d5.block lB4 (by omega)).trans B4
      have RB : Blk w5 X 29 #[.int .i64 t.kind, .string t.name, .string t.other, .int .i64 t.n, .int .i64 t.type.kind, .slice l.ta l.tn l.tc, .int .i64 t.res.kind, .slice l.ra l.rn l.rc, .slice l.aa l.an l.ac] := (d5.block hX4 (by omega)).trans L4.box
      have D5 := D4.trans d5
      have s5 := d5.size
      have O6 := (ho5.keep (putAt_fresh (M := X) hX4 (tcells u m) w5 0)).base (show w1.heap.size ≤ w4.heap.size by omega)
      have B6 : Blk (putAt w5 X 0 (tcells u m)) w.heap.size 29 #[.int .i64 0, .string ⟨#[]⟩, .string ⟨#[]⟩, .int .i64 0, .int .i64 0, .slice none 0 0, .int .i64 0, .slice none 0 0, .slice none 0 0] := B5.put (by omega) _ _
      have D6 := Drew.put hC D5 hXw (tcells u m) 0
      have X6 := put_box RB rfl u m
      have hX6 : X < (putAt w5 X 0 (tcells u m)).heap.size := by rw [putAt_size]; omega
      have E := hide (putAt_zero w5 X u m)
      obtain ⟨q0, q1, q2, q3, q4, q5, q6, q7, q8⟩ := RB.nine
      obtain ⟨z0, z1, z2, z3, z4, z5, z6, z7, z8⟩ : _ ∧ _ ∧ _ ∧ _ ∧ _ ∧ _ ∧ _ ∧ _ ∧ _ := ⟨RB.free 0, RB.free 1, RB.free 2, RB.free 3, RB.free 4, RB.free 5, RB.free 6, RB.free 7, RB.free 8⟩
      go_wp2_with fail
      rw [← E.out]
      go_meet
      exact ⟨u, m, X6, O6, by omega, B6, D6, hX6⟩
    | false =>
      go_wp2_with fail
      go_meet
      exact ⟨t, l, L4.box, L4.own, by omega, B4, D4, hX4⟩
  case rest =>
    clear B4 D4 hX4 L4
    clear hs
    obtain ⟨t, l, X5, O5, hs, B5, D5, hX5⟩ := hcut
    go_upto_region 5 with fail
    have hXR : X ≠ w.heap.size := by omega
    have HS := hide (fun (W : World) (hW : Drew p wc W) => (Blk.nine (show Blk W X 29 #[.int .i64 t.kind, .string t.name, .string t.other, .int .i64 t.n, .int .i64 t.type.kind, .slice l.ta l.tn l.tc, .int .i64 t.res.kind, .slice l.ra l.rn l.rc, .slice l.aa l.an l.ac] from (hW.block hX5 (by omega)).trans X5) : Nine X t l W))
    have kd := Drew.of_below D5.cur (below_drew wc)
    have lB5 := B5.lt
    refine wp_region_noPanic ?_
    refine wp_region_held_drew (S := (fun W => Nine X t l W)) (by kernel_rfl) ?_ (fun hHeld => ?_)
    · (try dsimp only)
      exact HS.out _ kd
    generalize wc.drew = wm at kd hHeld ⊢
    refine takeW 0 (v := ?_) rfl (by kernel_rfl) (by kernel_rfl) (by kernel_rfl) (fun _ _ _ h => h) (by rfl) (by assumption) ?_ ?_
    rotate_left
    · intro w hSw
      (try dsimp only [Nine] at hSw)
      go_simp
      (try with_reducible rfl)
    try simp only [Act.put, List.setIfInBounds_toArray, List.set_cons_zero, List.set_cons_succ]
    refine takeW 1 (v := ?_) rfl (by kernel_rfl) (by kernel_rfl) (by kernel_rfl) (fun _ _ _ h => h) (by rfl) (by assumption) ?_ ?_
    rotate_left
    · intro w hSw
      (try dsimp only [Nine] at hSw)
      go_simp
      (try with_reducible rfl)
    try simp only [Act.put, List.setIfInBounds_toArray, List.set_cons_zero, List.set_cons_succ]
    refine goW 2 rfl (by kernel_rfl) (fun K hK => ?_)
    go_simp
    go_at_call 20; (with_reducible refine (l1Below_any p 5 _ kd.cur (by omega)).mono ?_); rintro e w7 ⟨x, rfl, hx0, -, d7⟩; have hx5 : x < 5 := (by omega); have hwx : IntKind.i64.wrap ((x : Int) - 1) = (x : Int) - 1 := IntWalk.i64_in _ (by omega); have kd := kd.trans d7
    refine hK.out _ _ ?_ (fun hHeld => ?_)
    · (try dsimp only)
      exact HS.out _ kd
    clear hK K
    try simp only [Act.put, List.setIfInBounds_toArray, List.set_cons_zero, List.set_cons_succ]
    have hHeld2 := HS.out _ kd
    refine takeW 3 (v := ?_) rfl (by kernel_rfl) (by kernel_rfl) (by kernel_rfl) (fun _ _ _ h => h) (by rfl) (by assumption) ?_ ?_
    rotate_left
    · intro w hSw
      (try dsimp only [Nine] at hSw)
      go_simp
      (try with_reducible rfl)
    try simp only [Act.put, List.setIfInBounds_toArray, List.set_cons_zero, List.set_cons_succ]
    have D7 := D5.trans kd
    have RB : Blk w7 w.heap.size 29 #[.int .i64 0, .string ⟨#[]⟩, .string ⟨#[]⟩, .int .i64 0, .int .i64 0, .slice none 0 0, .int .i64 0, .slice none 0 0, .slice none 0 0] := (kd.block lB5 (by omega)).trans B5
    have O7 := O5.keep (kd.fresh (show p < w1.heap.size by omega))
    have k7 : Below w.heap.size w w7 := k1.trans (D7.2.below (by have := b1.size; simp at this; omega) (by have := hp.out; simp; omega))
    have HD : DrawnL w (.returned (.tuple #[.agg #[.int .i64 t.kind, .string t.name, .string t.other, .int .i64 t.n, .int .i64 t.type.kind, .slice l.ta l.tn l.tc, .int .i64 t.res.kind, .slice l.ra l.rn l.rc, .slice l.aa l.an l.ac], .int .i64 ((x : Int) - 1)])) (putAt w7 w.heap.size 0 (tcells t l)) := ⟨t, l, (x : Int) - 1, rfl, (O7.keep (putAt_fresh (M := w.heap.size) lB1 (tcells t l) w7 0)).md, hs, by omega, by omega, putAt_below (Nat.le_refl _) _ _ _ k7⟩
    replace HD := hide HD
    have HB := hide (put_box RB rfl t l).nine
    have HN := hide hHeld2
    obtain ⟨s0, s1, s2, s3, s4, s5, s6, s7, s8⟩ := hHeld2
    obtain ⟨q0, q1, q2, q3, q4, q5, q6, q7, q8⟩ : _ ∧ _ ∧ _ ∧ _ ∧ _ ∧ _ ∧ _ ∧ _ ∧ _ := ⟨RB.cell 0, RB.cell 1, RB.cell 2, RB.cell 3, RB.cell 4, RB.cell 5, RB.cell 6, RB.cell 7, RB.cell 8⟩
    simp at q0 q1 q2 q3 q4 q5 q6 q7 q8
    obtain ⟨z0, z1, z2, z3, z4, z5, z6, z7, z8⟩ : _ ∧ _ ∧ _ ∧ _ ∧ _ ∧ _ ∧ _ ∧ _ ∧ _ := ⟨RB.free 0, RB.free 1, RB.free 2, RB.free 3, RB.free 4, RB.free 5, RB.free 6, RB.free 7, RB.free 8⟩
    refine goW 4 rfl (by kernel_rfl) (fun K hK => ?_)
    go_simp
    refine hK.out _ _ ?_ (fun hHeld => ?_)
    · (try dsimp only)
      exact nine_set hXR (nine_set hXR (nine_set hXR (nine_set hXR (nine_set hXR (nine_set hXR (nine_set hXR (nine_set hXR (nine_set hXR HN.out))))))))
    clear hK K
    try simp only [Act.put, List.setIfInBounds_toArray, List.set_cons_zero, List.set_cons_succ]
    skip
    refine goW 5 rfl (by kernel_rfl) (fun K hK => ?_)
    go_simp
    refine hK.out _ _ ?_ (fun hHeld => ?_)
    · (try dsimp only)
      assumption
    clear hK K
    try simp only [Act.put, List.setIfInBounds_toArray, List.set_cons_zero, List.set_cons_succ]
    refine wpAnyH_done (by kernel_rfl) ?_ _
    refine NoPanic.normal ?_
    go_wp2_with fail
    have E := putAt_zero w7 w.heap.size t l
    rw [← E]
    obtain ⟨r0, r1, r2, r3, r4, r5, r6, r7, r8⟩ := HB.out
    refine bodyPost_ret (v := .tuple #[.agg #[.int .i64 t.kind, .string t.name, .string t.other, .int .i64 t.n, .int .i64 t.type.kind, .slice l.ta l.tn l.tc, .int .i64 t.res.kind, .slice l.ra l.rn l.rc, .slice l.aa l.an l.ac], .int .i64 ((x : Int) - 1)]) ?_ rfl HD.out
    simp [results, Tryz.results5, go_sem, r0, r1, r2, r3, r4, r5, r6, r7, r8]
end Go.Proofs.YtklifieahcoljaaGreat
