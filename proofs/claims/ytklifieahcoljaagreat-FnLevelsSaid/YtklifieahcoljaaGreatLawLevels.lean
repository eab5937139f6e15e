/-
  The law FnLevels, walked: a plain term has level 0 alone, and generated terms have no splice to it; both texts agree on levels.
-/
import Derived.Test.YtklifieahcoljaaGreatPkEnd
import Derived.Test.YtklifieahcoljaaGreatPkLv
import Derived.Test.YtklifieahcoljaaGreatDLevD
namespace Go.Proofs.YtklifieahcoljaaGreat.fnLevels
open Go.RowKit
set_option maxRecDepth 100000
set_option linter.unusedVariables false
set_option linter.unusedSimpArgs false

theorem plain_kind {t : Tm} (h : t.plain = true) : t.ok = true ∧ t.all plainS = true := by
  rw [Tm.plain_eq, Bool.and_eq_true] at h
  exact h
theorem next_low {k : Int} (h : k < 10) (m : Int) : nextLv k m = m := by
  have h1 : (k == 10) = false := beq_eq_false_iff_ne.2 (by omega)
  have h2 : (k == 11) = false := beq_eq_false_iff_ne.2 (by omega)
  simp [nextLv, h1, h2]
theorem low_kind {t : Tm} (h : plainS t = true) : t.kind < 10 := by
  rw [plainS_eq, Bool.and_eq_true] at h
  simpa using h.1
theorem plain_lv (t : Tm) : t.all plainS = true → lvOk t 0 = true ∧ lvMade t 0 = true ∧ t.hi 0 = 0 ∧ t.all (fun x => !Tm.isSplice x) = true := by
  induction t using Tm.ind' with | h t ih => ?_
  intro h
  rw [Tm.all_eq, Bool.and_eq_true] at h
  have hk := low_kind h.1
  have hA := fun x (hx : x ∈ t.args) => ih x hx (List.all_eq_true.1 h.2 x hx)
  refine ⟨?_, ?_, ?_, ?_⟩
  · rw [lvOk_eq, next_low hk, Bool.and_eq_true]
    exact ⟨by decide, List.all_eq_true.2 fun x hx => (hA x hx).1⟩
  · rw [lvMade_eq, next_low hk, Bool.and_eq_true]
    exact ⟨by simp [unspliced], List.all_eq_true.2 fun x hx => (hA x hx).2.1⟩
  · rw [Tm.hi_eq, next_low hk]
    have h1 := Tm.his_le t.args 0 0 0 (Int.le_refl _) fun x hx => by rw [(hA x hx).2.2.1]; exact Int.le_refl _
    have h2 := Tm.his_ge t.args 0 0
    omega
  · rw [Tm.all_eq, Bool.and_eq_true]
    refine ⟨?_, List.all_eq_true.2 fun x hx => (hA x hx).2.2.2⟩
    have h2 : (t.kind == 11) = false := beq_eq_false_iff_ne.2 (by omega)
    simp [Tm.isSplice, h2]
theorem plain_law {t : Tm} (h : t.plain = true) : t.highest = 0 ∧ t.generated 0 = true ∧ (t.count Tm.isSplice : Int) = 0 := by
  obtain ⟨h1, h2⟩ := plain_kind h
  obtain ⟨p1, p2, p3, p4⟩ := plain_lv t h2
  have hl : t.levelsOk 0 = true := by simp [Tm.levelsOk, h1, p1]
  exact ⟨by rw [Tm.highest, if_pos hl, p3], by simp [Tm.generated, hl, p2], by rw [(Tm.count_zero Tm.isSplice t).2 p4]; rfl⟩
theorem made_law {t : Tm} {m : Int} (h : t.generated m = true) : t.levelsOk m = true := by
  rw [Tm.generated, Bool.and_eq_true] at h
  exact h.1

set_option maxHeartbeats 12800000 in
theorem walk (a : Option Addr) (n cap : Nat) (w : World) (h : Rbs w a n cap) :
    Calls Tryz.prog 3 #[.slice a n cap] w fun e w' => e = .returned (.bool true) ∧ Below w.heap.size w w' := by
  have hn : n ≤ 9223372036854775807 := by obtain ⟨h2, h3, _⟩ := h; unfold maxLen at h3; omega
  by_cases hbig : n ≤ 1048576
  · have hd : decide ((n : Int) > 1048576) = false := by simp; omega
    have CB := big_any a n cap w hn
    rw [hd] at CB
    replace CB := hide CB
    have HR := hide h
    clear h
    go_enter Tryz.func3, Tryz.ntmps3
    go_wp2_with (go_at_call 4; (with_reducible refine CB.out.mono ?_); rintro e w0 ⟨rfl, rfl⟩)
    refine (drawLevelsOk_any a n cap _ HR.out).mono ?_
    rintro e w1 ⟨t, l, m, rfl, hr, hs, hm0, hm1, b1⟩
    have hz := t.args_le_wt
    have X1 := Blk.new w1 29 #[.int .i64 t.kind, .string t.name, .string t.other, .int .i64 t.n, .int .i64 t.type.kind, .slice l.ta l.tn l.tc, .int .i64 t.res.kind, .slice l.ra l.rn l.rc, .slice l.aa l.an l.ac]
    have r1 : Md (w1.alloc (.cells #[.int .i64 t.kind, .string t.name, .string t.other, .int .i64 t.n, .int .i64 t.type.kind, .slice l.ta l.tn l.tc, .int .i64 t.res.kind, .slice l.ra l.rn l.rc, .slice l.aa l.an l.ac] 29)) t l := hr.below (below_new _ _)
    have k1 : Below w.heap.size w (w1.alloc (.cells #[.int .i64 t.kind, .string t.name, .string t.other, .int .i64 t.n, .int .i64 t.type.kind, .slice l.ta l.tn l.tc, .int .i64 t.res.kind, .slice l.ra l.rn l.rc, .slice l.aa l.an l.ac] 29)) := below_next b1 (below_new _ _)
    go_upto_region 4 with fail
    generalize w1.alloc (.cells #[.int .i64 t.kind, .string t.name, .string t.other, .int .i64 t.n, .int .i64 t.type.kind, .slice l.ta l.tn l.tc, .int .i64 t.res.kind, .slice l.ra l.rn l.rc, .slice l.aa l.an l.ac] 29) = w3 at X1 r1 k1 ⊢
    generalize w1.heap.size = X at X1 ⊢
    have CL := fun (W : World) (hW : Below w3.heap.size w3 W) => implLevelsOk_any t l m W (r1.below hW) (by omega)
    have SL := fun (W : World) (hW : Below w3.heap.size w3 W) => specLevelsOk_any t l m W (r1.below hW) (by omega)
    have CG := fun (W : World) (hW : Below w3.heap.size w3 W) => implIsGenerated_any t l m W (r1.below hW) (by omega)
    have SG := fun (W : World) (hW : Below w3.heap.size w3 W) => specIsGenerated_any t l m W (r1.below hW) (by omega)
    have CZ := fun (W : World) (hW : Below w3.heap.size w3 W) => implIsGenerated_any t l 0 W (r1.below hW) (by omega)
    have CP := fun (W : World) (hW : Below w3.heap.size w3 W) => implIsPlain_any t l W (r1.below hW) (by omega)
    have SP := fun (W : World) (hW : Below w3.heap.size w3 W) => specIsPlain_any t l W (r1.below hW) (by omega)
    have CC := fun (W : World) (hW : Below w3.heap.size w3 W) => implCountSplices_any t l W (r1.below hW) (by omega)
    have SC := fun (W : World) (hW : Below w3.heap.size w3 W) => specCountSplices_any t l W (r1.below hW) (by omega)
    have CH := fun (W : World) (hW : Below w3.heap.size w3 W) => implHighestLevel_law t l W (r1.below hW) (by omega)
    have SH := fun (W : World) (hW : Below w3.heap.size w3 W) => specHighestLevel_law t l W (r1.below hW) (by omega)
    have HP : t.plain = true → t.highest = 0 ∧ t.generated 0 = true ∧ (t.count Tm.isSplice : Int) = 0 := plain_law
    have HM : t.generated m = true → t.levelsOk m = true := made_law
    generalize t.levelsOk m = bl at CL SL HM
    generalize t.generated m = bg at CG SG HM
    generalize t.generated 0 = bz at CZ HP
    generalize t.plain = bp at CP SP HP
    generalize (t.count Tm.isSplice : Int) = cs at CC SC HP
    generalize t.highest = hl at CH SH HP
    have g1 : (bl != bl) = false := by simp
    have g2 : (bp != bp) = false := by simp
    have g3 : (bg != bg) = false := by simp
    have g4 : (cs != cs) = false := by simp
    have g5 : (hl != hl) = false := by simp
    have HS := hide (fun (W : World) (hW : Below w3.heap.size w3 W) => (Blk.nine (X1.under hW) : Nine X t l W))
    replace CL := hide CL
    replace SL := hide SL
    replace CG := hide CG
    replace SG := hide SG
    replace CZ := hide CZ
    replace CP := hide CP
    replace SP := hide SP
    replace CC := hide CC
    replace SC := hide SC
    replace CH := hide CH
    replace SH := hide SH
    replace HP := hide HP
    replace HM := hide HM
    have kd := below_drew w3
    refine wp_region_noPanic ?_
    refine wp_region_held_drew (S := (fun W => Nine X t l W)) (by kernel_rfl) ?_ (fun hHeld => ?_)
    · (try dsimp only)
      exact HS.out _ kd
    refine takeW 0 (v := ?_) rfl (by kernel_rfl) (by kernel_rfl) (by kernel_rfl) (fun _ _ _ h => h) (by rfl) (by assumption) ?_ ?_
    rotate_left
    · intro w hSw
      (try dsimp only at hSw)
      go_simp
      (try with_reducible rfl)
    try simp only [Act.put, List.setIfInBounds_toArray, List.set_cons_zero, List.set_cons_succ]
    refine takeW 1 (v := ?_) rfl (by kernel_rfl) (by kernel_rfl) (by kernel_rfl) (fun _ _ _ h => h) (by rfl) (by assumption) ?_ ?_
    rotate_left
    · intro w hSw
      (try dsimp only at hSw)
      go_simp
      (try with_reducible rfl)
    try simp only [Act.put, List.setIfInBounds_toArray, List.set_cons_zero, List.set_cons_succ]
    refine takeW 3 (v := ?_) rfl (by kernel_rfl) (by kernel_rfl) (by kernel_rfl) (fun _ _ _ h => h) (by rfl) (by assumption) ?_ ?_
    rotate_left
    · intro w hSw
      (try dsimp only at hSw)
      go_simp
      (try with_reducible rfl)
    try simp only [Act.put, List.setIfInBounds_toArray, List.set_cons_zero, List.set_cons_succ]
    refine takeW 4 (v := ?_) rfl (by kernel_rfl) (by kernel_rfl) (by kernel_rfl) (fun _ _ _ h => h) (by rfl) (by assumption) ?_ ?_
    rotate_left
    · intro w hSw
      (try dsimp only at hSw)
      go_simp
      (try with_reducible rfl)
    try simp only [Act.put, List.setIfInBounds_toArray, List.set_cons_zero, List.set_cons_succ]
    refine goW 2 rfl (by kernel_rfl) (fun K hK => ?_)
    go_simp
    go_at_call 6; (with_reducible refine (CL.out _ kd).mono ?_); rintro e w6 ⟨rfl, b6⟩; have kd := below_next kd b6
    refine hK.out _ _ ?_ (fun hHeld => ?_)
    · (try dsimp only)
      exact HS.out _ kd
    clear hK K
    try simp only [Act.put, List.setIfInBounds_toArray, List.set_cons_zero, List.set_cons_succ]
    refine goW 5 rfl (by kernel_rfl) (fun K hK => ?_)
    go_simp
    go_at_call 7; (with_reducible refine (SL.out _ kd).mono ?_); rintro e w6 ⟨rfl, b6⟩; have kd := below_next kd b6
    refine hK.out _ _ ?_ (fun hHeld => ?_)
    · (try dsimp only)
      exact HS.out _ kd
    clear hK K
    try simp only [Act.put, List.setIfInBounds_toArray, List.set_cons_zero, List.set_cons_succ]
    refine takeW 6 (v := ?_) rfl (by kernel_rfl) (by kernel_rfl) (by kernel_rfl) (fun _ _ _ h => h) (by rfl) (by assumption) ?_ ?_
    rotate_left
    · intro w hSw
      (try dsimp only at hSw)
      go_simp
      (try with_reducible rfl)
    try simp only [Act.put, List.setIfInBounds_toArray, List.set_cons_zero, List.set_cons_succ]
    refine takeW 7 (v := ?_) rfl (by kernel_rfl) (by kernel_rfl) (by kernel_rfl) (fun _ _ _ h => h) (by rfl) (by assumption) ?_ ?_
    rotate_left
    · intro w hSw
      (try dsimp only at hSw)
      go_simp
      (try with_reducible rfl)
    try simp only [Act.put, List.setIfInBounds_toArray, List.set_cons_zero, List.set_cons_succ]
    refine takeW 8 (v := ?_) rfl (by kernel_rfl) (by kernel_rfl) (by kernel_rfl) (fun _ _ _ h => h) (by rfl) (by assumption) ?_ ?_
    rotate_left
    · intro w hSw
      (try dsimp only at hSw)
      go_simp
      (try with_reducible rfl)
    try simp only [Act.put, List.setIfInBounds_toArray, List.set_cons_zero, List.set_cons_succ]
    refine takeW 10 (v := ?_) rfl (by kernel_rfl) (by kernel_rfl) (by kernel_rfl) (fun _ _ _ h => h) (by rfl) (by assumption) ?_ ?_
    rotate_left
    · intro w hSw
      (try dsimp only at hSw)
      go_simp
      (try with_reducible rfl)
    try simp only [Act.put, List.setIfInBounds_toArray, List.set_cons_zero, List.set_cons_succ]
    refine goW 9 rfl (by kernel_rfl) (fun K hK => ?_)
    go_simp
    go_at_call 8; (with_reducible refine (CP.out _ kd).mono ?_); rintro e w6 ⟨rfl, b6⟩; have kd := below_next kd b6
    refine hK.out _ _ ?_ (fun hHeld => ?_)
    · (try dsimp only)
      exact HS.out _ kd
    clear hK K
    try simp only [Act.put, List.setIfInBounds_toArray, List.set_cons_zero, List.set_cons_succ]
    refine goW 11 rfl (by kernel_rfl) (fun K hK => ?_)
    go_simp
    go_at_call 9; (with_reducible refine (SP.out _ kd).mono ?_); rintro e w6 ⟨rfl, b6⟩; have kd := below_next kd b6
    refine hK.out _ _ ?_ (fun hHeld => ?_)
    · (try dsimp only)
      exact HS.out _ kd
    clear hK K
    try simp only [Act.put, List.setIfInBounds_toArray, List.set_cons_zero, List.set_cons_succ]
    refine takeW 12 (v := ?_) rfl (by kernel_rfl) (by kernel_rfl) (by kernel_rfl) (fun _ _ _ h => h) (by rfl) (by assumption) ?_ ?_
    rotate_left
    · intro w hSw
      (try dsimp only at hSw)
      go_simp
      (try with_reducible rfl)
    try simp only [Act.put, List.setIfInBounds_toArray, List.set_cons_zero, List.set_cons_succ]
    refine takeW 13 (v := ?_) rfl (by kernel_rfl) (by kernel_rfl) (by kernel_rfl) (fun _ _ _ h => h) (by rfl) (by assumption) ?_ ?_
    rotate_left
    · intro w hSw
      (try dsimp only at hSw)
      go_simp
      (try with_reducible rfl)
    try simp only [Act.put, List.setIfInBounds_toArray, List.set_cons_zero, List.set_cons_succ]
    refine takeW 14 (v := ?_) rfl (by kernel_rfl) (by kernel_rfl) (by kernel_rfl) (fun _ _ _ h => h) (by rfl) (by assumption) ?_ ?_
    rotate_left
    · intro w hSw
      (try dsimp only at hSw)
      go_simp
      (try with_reducible rfl)
    try simp only [Act.put, List.setIfInBounds_toArray, List.set_cons_zero, List.set_cons_succ]
    refine takeW 15 (v := ?_) rfl (by kernel_rfl) (by kernel_rfl) (by kernel_rfl) (fun _ _ _ h => h) (by rfl) (by assumption) ?_ ?_
    rotate_left
    · intro w hSw
      (try dsimp only at hSw)
      go_simp
      (try with_reducible rfl)
    try simp only [Act.put, List.setIfInBounds_toArray, List.set_cons_zero, List.set_cons_succ]
    refine takeW 16 (v := ?_) rfl (by kernel_rfl) (by kernel_rfl) (by kernel_rfl) (fun _ _ _ h => h) (by rfl) (by assumption) ?_ ?_
    rotate_left
    · intro w hSw
      (try dsimp only at hSw)
      go_simp
      (try with_reducible rfl)
    try simp only [Act.put, List.setIfInBounds_toArray, List.set_cons_zero, List.set_cons_succ]
    refine takeW 18 (v := ?_) rfl (by kernel_rfl) (by kernel_rfl) (by kernel_rfl) (fun _ _ _ h => h) (by rfl) (by assumption) ?_ ?_
    rotate_left
    · intro w hSw
      (try dsimp only at hSw)
      go_simp
      (try with_reducible rfl)
    try simp only [Act.put, List.setIfInBounds_toArray, List.set_cons_zero, List.set_cons_succ]
    refine takeW 19 (v := ?_) rfl (by kernel_rfl) (by kernel_rfl) (by kernel_rfl) (fun _ _ _ h => h) (by rfl) (by assumption) ?_ ?_
    rotate_left
    · intro w hSw
      (try dsimp only at hSw)
      go_simp
      (try with_reducible rfl)
    try simp only [Act.put, List.setIfInBounds_toArray, List.set_cons_zero, List.set_cons_succ]
    refine goW 17 rfl (by kernel_rfl) (fun K hK => ?_)
    go_simp
    go_at_call 10; (with_reducible refine (CG.out _ kd).mono ?_); rintro e w6 ⟨rfl, b6⟩; have kd := below_next kd b6
    refine hK.out _ _ ?_ (fun hHeld => ?_)
    · (try dsimp only)
      exact HS.out _ kd
    clear hK K
    try simp only [Act.put, List.setIfInBounds_toArray, List.set_cons_zero, List.set_cons_succ]
    refine goW 20 rfl (by kernel_rfl) (fun K hK => ?_)
    go_simp
    go_at_call 11; (with_reducible refine (SG.out _ kd).mono ?_); rintro e w6 ⟨rfl, b6⟩; have kd := below_next kd b6
    refine hK.out _ _ ?_ (fun hHeld => ?_)
    · (try dsimp only)
      exact HS.out _ kd
    clear hK K
    try simp only [Act.put, List.setIfInBounds_toArray, List.set_cons_zero, List.set_cons_succ]
    refine takeW 21 (v := ?_) rfl (by kernel_rfl) (by kernel_rfl) (by kernel_rfl) (fun _ _ _ h => h) (by rfl) (by assumption) ?_ ?_
    rotate_left
    · intro w hSw
      (try dsimp only at hSw)
      go_simp
      (try with_reducible rfl)
    try simp only [Act.put, List.setIfInBounds_toArray, List.set_cons_zero, List.set_cons_succ]
    refine takeW 22 (v := ?_) rfl (by kernel_rfl) (by kernel_rfl) (by kernel_rfl) (fun _ _ _ h => h) (by rfl) (by assumption) ?_ ?_
    rotate_left
    · intro w hSw
      (try dsimp only at hSw)
      go_simp
      (try with_reducible rfl)
    try simp only [Act.put, List.setIfInBounds_toArray, List.set_cons_zero, List.set_cons_succ]
    refine takeW 23 (v := ?_) rfl (by kernel_rfl) (by kernel_rfl) (by kernel_rfl) (fun _ _ _ h => h) (by rfl) (by assumption) ?_ ?_
    rotate_left
    · intro w hSw
      (try dsimp only at hSw)
      go_simp
      (try with_reducible rfl)
    try simp only [Act.put, List.setIfInBounds_toArray, List.set_cons_zero, List.set_cons_succ]
    refine takeW 24 (v := ?_) rfl (by kernel_rfl) (by kernel_rfl) (by kernel_rfl) (fun _ _ _ h => h) (by rfl) (by assumption) ?_ ?_
    rotate_left
    · intro w hSw
      (try dsimp only at hSw)
      go_simp
      (try with_reducible rfl)
    try simp only [Act.put, List.setIfInBounds_toArray, List.set_cons_zero, List.set_cons_succ]
    refine takeW 26 (v := ?_) rfl (by kernel_rfl) (by kernel_rfl) (by kernel_rfl) (fun _ _ _ h => h) (by rfl) (by assumption) ?_ ?_
    rotate_left
    · intro w hSw
      (try dsimp only at hSw)
      go_simp
      (try with_reducible rfl)
    try simp only [Act.put, List.setIfInBounds_toArray, List.set_cons_zero, List.set_cons_succ]
    refine goW 25 rfl (by kernel_rfl) (fun K hK => ?_)
    go_simp
    go_at_call 12; (with_reducible refine (CC.out _ kd).mono ?_); rintro e w6 ⟨rfl, b6⟩; have kd := below_next kd b6
    refine hK.out _ _ ?_ (fun hHeld => ?_)
    · (try dsimp only)
      exact HS.out _ kd
    clear hK K
    try simp only [Act.put, List.setIfInBounds_toArray, List.set_cons_zero, List.set_cons_succ]
    refine goW 27 rfl (by kernel_rfl) (fun K hK => ?_)
    go_simp
    go_at_call 13; (with_reducible refine (SC.out _ kd).mono ?_); rintro e w6 ⟨rfl, b6⟩; have kd := below_next kd b6
    refine hK.out _ _ ?_ (fun hHeld => ?_)
    · (try dsimp only)
      exact HS.out _ kd
    clear hK K
    try simp only [Act.put, List.setIfInBounds_toArray, List.set_cons_zero, List.set_cons_succ]
    refine takeW 28 (v := ?_) rfl (by kernel_rfl) (by kernel_rfl) (by kernel_rfl) (fun _ _ _ h => h) (by rfl) (by assumption) ?_ ?_
    rotate_left
    · intro w hSw
      (try dsimp only at hSw)
      go_simp
      (try with_reducible rfl)
    try simp only [Act.put, List.setIfInBounds_toArray, List.set_cons_zero, List.set_cons_succ]
    refine takeW 29 (v := ?_) rfl (by kernel_rfl) (by kernel_rfl) (by kernel_rfl) (fun _ _ _ h => h) (by rfl) (by assumption) ?_ ?_
    rotate_left
    · intro w hSw
      (try dsimp only at hSw)
      go_simp
      (try with_reducible rfl)
    try simp only [Act.put, List.setIfInBounds_toArray, List.set_cons_zero, List.set_cons_succ]
    refine takeW 30 (v := ?_) rfl (by kernel_rfl) (by kernel_rfl) (by kernel_rfl) (fun _ _ _ h => h) (by rfl) (by assumption) ?_ ?_
    rotate_left
    · intro w hSw
      (try dsimp only at hSw)
      go_simp
      (try with_reducible rfl)
    try simp only [Act.put, List.setIfInBounds_toArray, List.set_cons_zero, List.set_cons_succ]
    refine takeW 31 (v := ?_) rfl (by kernel_rfl) (by kernel_rfl) (by kernel_rfl) (fun _ _ _ h => h) (by rfl) (by assumption) ?_ ?_
    rotate_left
    · intro w hSw
      (try dsimp only at hSw)
      go_simp
      (try with_reducible rfl)
    try simp only [Act.put, List.setIfInBounds_toArray, List.set_cons_zero, List.set_cons_succ]
    refine takeW 33 (v := ?_) rfl (by kernel_rfl) (by kernel_rfl) (by kernel_rfl) (fun _ _ _ h => h) (by rfl) (by assumption) ?_ ?_
    rotate_left
    · intro w hSw
      (try dsimp only at hSw)
      go_simp
      (try with_reducible rfl)
    try simp only [Act.put, List.setIfInBounds_toArray, List.set_cons_zero, List.set_cons_succ]
    refine goW 32 rfl (by kernel_rfl) (fun K hK => ?_)
    go_simp
    go_at_call 14; (with_reducible refine (CH.out _ kd).mono ?_); rintro e w6 ⟨rfl, b6⟩; have kd := below_next kd b6
    refine hK.out _ _ ?_ (fun hHeld => ?_)
    · (try dsimp only)
      exact HS.out _ kd
    clear hK K
    try simp only [Act.put, List.setIfInBounds_toArray, List.set_cons_zero, List.set_cons_succ]
    refine goW 34 rfl (by kernel_rfl) (fun K hK => ?_)
    go_simp
    go_at_call 15; (with_reducible refine (SH.out _ kd).mono ?_); rintro e w6 ⟨rfl, b6⟩; have kd := below_next kd b6
    refine hK.out _ _ ?_ (fun hHeld => ?_)
    · (try dsimp only)
      exact HS.out _ kd
    clear hK K
    try simp only [Act.put, List.setIfInBounds_toArray, List.set_cons_zero, List.set_cons_succ]
    refine takeW 35 (v := ?_) rfl (by kernel_rfl) (by kernel_rfl) (by kernel_rfl) (fun _ _ _ h => h) (by rfl) (by assumption) ?_ ?_
    rotate_left
    · intro w hSw
      (try dsimp only at hSw)
      go_simp
      (try with_reducible rfl)
    try simp only [Act.put, List.setIfInBounds_toArray, List.set_cons_zero, List.set_cons_succ]
    refine takeW 36 (v := ?_) rfl (by kernel_rfl) (by kernel_rfl) (by kernel_rfl) (fun _ _ _ h => h) (by rfl) (by assumption) ?_ ?_
    rotate_left
    · intro w hSw
      (try dsimp only at hSw)
      go_simp
      (try with_reducible rfl)
    try simp only [Act.put, List.setIfInBounds_toArray, List.set_cons_zero, List.set_cons_succ]
    refine wpAnyH_done (by kernel_rfl) ?_ _
    refine NoPanic.normal ?_
    obtain ⟨x0, x1, x2, x3, x4, x5, x6, x7, x8⟩ := HS.out _ kd
    cases bp with
    | false =>
      go_wp2_with fail
      refine (CP.out _ kd).mono ?_
      rintro e w7 ⟨rfl, b7⟩
      have kd := below_next kd b7
      clear x0 x1 x2 x3 x4 x5 x6 x7 x8
      obtain ⟨x0, x1, x2, x3, x4, x5, x6, x7, x8⟩ := HS.out _ kd
      go_wp2_with fail
      refine (CG.out _ kd).mono ?_
      rintro e w8 ⟨rfl, b8⟩
      have kd := below_next kd b8
      clear x0 x1 x2 x3 x4 x5 x6 x7 x8
      obtain ⟨x0, x1, x2, x3, x4, x5, x6, x7, x8⟩ := HS.out _ kd
      cases bg with
      | false =>
        go_wp2_with fail
        go_ret
        exact ⟨rfl, below_next k1 kd⟩
      | true =>
        have hl1 := HM.out rfl
        subst hl1
        go_wp2_with fail
        refine (CL.out _ kd).mono ?_
        rintro e w9 ⟨rfl, b9⟩
        have kd := below_next kd b9
        go_wp2_with fail
        go_ret
        exact ⟨rfl, below_next k1 kd⟩
    | true =>
      obtain ⟨e1, e2, e3⟩ := HP.out rfl
      subst e1 e2 e3
      go_wp2_with fail
      refine (CP.out _ kd).mono ?_
      rintro e w7 ⟨rfl, b7⟩
      have kd := below_next kd b7
      clear x0 x1 x2 x3 x4 x5 x6 x7 x8
      obtain ⟨x0, x1, x2, x3, x4, x5, x6, x7, x8⟩ := HS.out _ kd
      go_wp2_with fail
      refine (CH.out _ kd).mono ?_
      rintro e w7 ⟨rfl, b7⟩
      have kd := below_next kd b7
      clear x0 x1 x2 x3 x4 x5 x6 x7 x8
      obtain ⟨x0, x1, x2, x3, x4, x5, x6, x7, x8⟩ := HS.out _ kd
      go_wp2_with fail
      refine (CZ.out _ kd).mono ?_
      rintro e w7 ⟨rfl, b7⟩
      have kd := below_next kd b7
      clear x0 x1 x2 x3 x4 x5 x6 x7 x8
      obtain ⟨x0, x1, x2, x3, x4, x5, x6, x7, x8⟩ := HS.out _ kd
      go_wp2_with fail
      refine (CC.out _ kd).mono ?_
      rintro e w7 ⟨rfl, b7⟩
      have kd := below_next kd b7
      clear x0 x1 x2 x3 x4 x5 x6 x7 x8
      obtain ⟨x0, x1, x2, x3, x4, x5, x6, x7, x8⟩ := HS.out _ kd
      go_wp2_with fail
      refine (CG.out _ kd).mono ?_
      rintro e w8 ⟨rfl, b8⟩
      have kd := below_next kd b8
      clear x0 x1 x2 x3 x4 x5 x6 x7 x8
      obtain ⟨x0, x1, x2, x3, x4, x5, x6, x7, x8⟩ := HS.out _ kd
      cases bg with
      | false =>
        go_wp2_with fail
        go_ret
        exact ⟨rfl, below_next k1 kd⟩
      | true =>
        have hl1 := HM.out rfl
        subst hl1
        go_wp2_with fail
        refine (CL.out _ kd).mono ?_
        rintro e w9 ⟨rfl, b9⟩
        have kd := below_next kd b9
        go_wp2_with fail
        go_ret
        exact ⟨rfl, below_next k1 kd⟩
  · have hd : decide ((n : Int) > 1048576) = true := by simp; omega
    have CB := big_any a n cap w hn
    rw [hd] at CB
    replace CB := hide CB
    go_enter Tryz.func3, Tryz.ntmps3
    go_wp2_with (go_at_call 4; (with_reducible refine CB.out.mono ?_); rintro e w0 ⟨rfl, rfl⟩)
    go_ret
    exact ⟨rfl, Below.refl _ _⟩
end Go.Proofs.YtklifieahcoljaaGreat.fnLevels
