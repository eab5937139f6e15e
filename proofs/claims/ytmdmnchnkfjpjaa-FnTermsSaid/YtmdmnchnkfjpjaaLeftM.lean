/-
  The walks of the reference's l5Left and of IsValidTerm in both texts.
-/
import Derived.Test.YtmdmnchnkfjpjaaTermM
import Derived.Test.YtmdmnchnkfjpjaaSizeM
import Derived.Test.YtmdmnchnkfjpjaaDepthM
import Derived.Test.YtmdmnchnkfjpjaaLess
namespace Go.Proofs.Ytmdmnchnkfjpjaa
open Go.RowKit
set_option linter.unusedVariables false
set_option linter.unusedSimpArgs false

set_option maxHeartbeats 1600000 in
theorem l5Left_any (t : Tm) : ∀ (l : Lt) (left : Int) (w : World), Md w t l → 0 ≤ left → left ≤ 1048576 →
    Calls Try.prog 24 #[.agg #[.int .i64 t.kind, .string t.name, .string t.other, .int .i64 t.n, .int .i64 t.type.kind, .slice l.ta l.tn l.tc, .int .i64 t.res.kind, .slice l.ra l.rn l.rc, .slice l.aa l.an l.ac], .int .i64 left] w fun e w' => e = .returned (.int .i64 (lessN t.size left)) ∧ Below w.heap.size w w' := by
  induction t using Tm.ind' with | h t ih => ?_
  intro l left w h hl0 hl1
  have IH := hide ih
  clear ih
  obtain ⟨-, -, -, hr⟩ := h.shape
  clear h
  have hn : l.an ≤ 9223372036854775807 := by obtain ⟨_, h2, h3, _⟩ := hr; unfold maxLen at h3; omega
  by_cases hz : left = 0
  · subst hz
    go_enter Try.func24, Try.ntmps24
    go_wp2_with fail
    refine wp_loop_rounds 1 ?_
    rw [rounds_succ]
    go_wp2_with fail
    all_goals go_ret
    all_goals exact ⟨ret_int (lessN_neg (by have := Tm.size_pos t; omega)).symm, (by repeat (first | exact Below.refl _ _ | assumption | refine Below.drew ?_ | refine below_drewN ?_ _ | refine Below.alloc ?_ (by first | omega | (simp; done) | (simp; omega)) _ | refine Below.setCell ?_ (by first | omega | (simp; done) | (simp; omega)) _))⟩
  · go_enter Try.func24, Try.ntmps24
    go_wp2_with fail
    go_loopw [1, 5] (fun lf i wr => ∃ j : Nat, j ≤ l.an ∧ i = .int .i64 j ∧ (∃ s : Int, lf = .int .i64 s ∧ -1 ≤ s ∧ s ≤ left ∧ Hid (s = lessN (Tm.sizes (t.args.take j)) (left - 1))) ∧ Blk wr w.heap.size 29 #[.int .i64 t.kind, .string t.name, .string t.other, .int .i64 t.n, .int .i64 t.type.kind, .slice l.ta l.tn l.tc, .int .i64 t.res.kind, .slice l.ra l.rn l.rc, .slice l.aa l.an l.ac] ∧ Below w.heap.size w wr) (fun _ i _ => l.an - (intOf i).toNat)
    case atStart => exact ⟨0, by omega, rfl, ⟨_, rfl, by omega, by omega, by simp [Hid, Tm.sizes]; rw [lessN_zero (by omega)]⟩, Blk.new _ _ _, (by repeat (first | exact Below.refl _ _ | assumption | refine Below.drew ?_ | refine below_drewN ?_ _ | refine Below.alloc ?_ (by first | omega | (simp; done) | (simp; omega)) _ | refine Below.setCell ?_ (by first | omega | (simp; done) | (simp; omega)) _))⟩
    case round =>
      obtain ⟨j, hj, rfl, ⟨s, rfl, hs1, hs2, Hs⟩, hB, hb⟩ := hrel
      have hsz := hb.size
      obtain ⟨v0, v1, v2, v3, v4, v5, v6, v7, hcell8⟩ := hB.nine
      by_cases hjn : j < l.an
      · have hjx : j < t.args.length := by rw [← hr.1]; exact hjn
        by_cases hs0 : 0 ≤ s
        · obtain ⟨b, off, l', ha, hlt, hc, hd⟩ := (hr.below hb).get j hjx
          obtain ⟨e0, e1, e2, e3, e4, e5, e6, e7, e8⟩ := hc.nine
          clear hc
          rw [ha] at hcell8 ⊢
          go_wp2_with (go_at_call 24; (with_reducible refine (IH.out _ (List.getElem_mem _) _ _ _ hd hs0 (by omega)).mono ?_); rintro e w' ⟨rfl, hb'⟩)
          go_roundw
          case rel =>
            have h3 := Hs.out
            have h4 := lessN_bounds t.args[j].size hs0
            refine ⟨j + 1, by omega, by go_num, ⟨_, rfl, h4.1, by omega, ?_⟩, (by have hB2 := hB.under hb'; rw [ha] at hB2; exact hB2), hb.trans (by repeat (first | exact Below.refl _ _ | refine Below.drew ?_ | refine below_drewN ?_ _ | refine Below.alloc ?_ (by first | omega | (simp; done) | (simp; omega)) _ | refine Below.setCell ?_ (by first | omega | (simp; done) | (simp; omega)) _ | refine Below.trans ?_ (Below.mono hb' (by first | omega | (simp; done) | (simp; omega)))))⟩
            subst h3
            rw [Hid, lessN_more hs0, Tm.sizes_take t.args j hjx, Tm.size_eq]
          case measure => simp [intOf]; omega
        · go_wp2
          go_ret
          refine ⟨ret_int ?_, hb⟩
          have h3 := Hs.out
          have h5 := Tm.sizes_take_le t.args j
          subst h3
          rw [Tm.size_eq, lessN_eq_neg (by omega) (by omega)]
          exact (lessN_stop hl0 (a := Tm.sizes (t.args.take j)) (by omega) (by omega) (by omega)).symm
      · go_wp2
        all_goals go_ret
        all_goals
          refine ⟨ret_int ?_, hb⟩
          have h3 := Hs.out
          have h4 : l.an = t.args.length := hr.1
          rw [List.take_of_length_le (by omega), lessN_one] at h3
          rw [Tm.size_eq]
          exact h3

/-- A valid term of the language. -/
def Tm.valid (t : Tm) : Bool := decide (t.size ≤ 80) && (decide (t.depth ≤ 20) && t.ok)

set_option maxHeartbeats 800000 in
theorem specIsValidTerm_any (t : Tm) (l : Lt) (w : World) (h : Md w t l) (hw : t.wt ≤ 1048576) :
    Calls Try.prog 11 #[.agg #[.int .i64 t.kind, .string t.name, .string t.other, .int .i64 t.n, .int .i64 t.type.kind, .slice l.ta l.tn l.tc, .int .i64 t.res.kind, .slice l.ra l.rn l.rc, .slice l.aa l.an l.ac]] w fun e w' => e = .returned (.bool t.valid) ∧ Below w.heap.size w w' := by
  have hz := Nat.le_trans t.args_le_wt hw
  by_cases hs : t.size ≤ 80
  · have hp : 0 ≤ lessN t.size 80 := by rw [lessN_pos (by omega)]; omega
    by_cases hd : t.depth ≤ 20
    · have hv := hide (show t.valid = t.ok by simp [Tm.valid, hs, hd])
      go_enter Try.func11, Try.ntmps11
      go_wp2_with fail
      refine (l5Left_any t _ _ _ (h.below (by repeat (first | exact Below.refl _ _ | assumption | refine Below.drew ?_ | refine below_drewN ?_ _ | refine Below.alloc ?_ (by first | omega | (simp; done) | (simp; omega)) _ | refine Below.setCell ?_ (by first | omega | (simp; done) | (simp; omega)) _))) (by omega) (by omega)).mono ?_
      rintro e w1 ⟨rfl, b1⟩
      have B1 := (Blk.new w _ _).under b1
      obtain ⟨u0, u1, u2, u3, u4, u5, u6, u7, u8⟩ := B1.nine
      go_wp2_with fail
      refine (specDepthOf_any t _ _ (h.below (below_of_alloc b1)) hz).mono ?_
      rintro e w2 ⟨rfl, b2⟩
      have B2 := B1.under b2
      clear u0 u1 u2 u3 u4 u5 u6 u7 u8
      obtain ⟨u0, u1, u2, u3, u4, u5, u6, u7, u8⟩ := B2.nine
      go_wp2_with fail
      refine (specIsTerm_any t _ _ ((h.below (below_of_alloc b1)).below b2) hw).mono ?_
      rintro e w3 ⟨rfl, b3⟩
      go_wp2_with fail
      go_ret
      exact ⟨ret_bool hv.out.symm, below_next (below_next (below_of_alloc b1) b2) b3⟩
    · have hv := hide (show t.valid = false by simp [Tm.valid, hd])
      go_enter Try.func11, Try.ntmps11
      go_wp2_with fail
      refine (l5Left_any t _ _ _ (h.below (by repeat (first | exact Below.refl _ _ | assumption | refine Below.drew ?_ | refine below_drewN ?_ _ | refine Below.alloc ?_ (by first | omega | (simp; done) | (simp; omega)) _ | refine Below.setCell ?_ (by first | omega | (simp; done) | (simp; omega)) _))) (by omega) (by omega)).mono ?_
      rintro e w1 ⟨rfl, b1⟩
      have B1 := (Blk.new w _ _).under b1
      obtain ⟨u0, u1, u2, u3, u4, u5, u6, u7, u8⟩ := B1.nine
      go_wp2_with fail
      refine (specDepthOf_any t _ _ (h.below (below_of_alloc b1)) hz).mono ?_
      rintro e w2 ⟨rfl, b2⟩
      go_wp2_with fail
      go_ret
      exact ⟨ret_bool hv.out.symm, below_next (below_of_alloc b1) b2⟩
  · have hp : lessN t.size 80 < 0 := by rw [lessN_neg (by omega)]; omega
    have hv := hide (show t.valid = false by simp [Tm.valid, hs])
    go_enter Try.func11, Try.ntmps11
    go_wp2_with fail
    refine (l5Left_any t _ _ _ (h.below (by repeat (first | exact Below.refl _ _ | assumption | refine Below.drew ?_ | refine below_drewN ?_ _ | refine Below.alloc ?_ (by first | omega | (simp; done) | (simp; omega)) _ | refine Below.setCell ?_ (by first | omega | (simp; done) | (simp; omega)) _))) (by omega) (by omega)).mono ?_
    rintro e w1 ⟨rfl, b1⟩
    go_wp2_with fail
    go_ret
    exact ⟨ret_bool hv.out.symm, below_of_alloc b1⟩

set_option maxHeartbeats 800000 in
theorem implIsValidTerm_any (t : Tm) (l : Lt) (w : World) (h : Md w t l) (hw : t.wt ≤ 1048576) :
    Calls Try.prog 10 #[.agg #[.int .i64 t.kind, .string t.name, .string t.other, .int .i64 t.n, .int .i64 t.type.kind, .slice l.ta l.tn l.tc, .int .i64 t.res.kind, .slice l.ra l.rn l.rc, .slice l.aa l.an l.ac]] w fun e w' => e = .returned (.bool t.valid) ∧ Below w.heap.size w w' := by
  have hz := Nat.le_trans t.args_le_wt hw
  have C := implIsTerm_any t l _ (h.below (below_new w (.cells #[.int .i64 t.kind, .string t.name, .string t.other, .int .i64 t.n, .int .i64 t.type.kind, .slice l.ta l.tn l.tc, .int .i64 t.res.kind, .slice l.ra l.rn l.rc, .slice l.aa l.an l.ac] 29))) hw
  cases ho : t.ok with
  | true =>
    rw [ho] at C
    replace C := hide C
    have ho := hide ho
    by_cases hs : t.size ≤ 80
    · have hv := hide (show t.valid = decide (t.depth ≤ 20) by simp [Tm.valid, hs, ho.out])
      go_enter Try.func10, Try.ntmps10
      go_wp2_with fail
      refine C.out.mono ?_
      rintro e w1 ⟨rfl, b1⟩
      have B1 := (Blk.new w _ _).under b1
      obtain ⟨u0, u1, u2, u3, u4, u5, u6, u7, u8⟩ := B1.nine
      go_wp2_with fail
      refine (implSizeOf_any t _ _ (h.below (below_of_alloc b1)) hz).mono ?_
      rintro e w2 ⟨rfl, b2⟩
      have B2 := B1.under b2
      clear u0 u1 u2 u3 u4 u5 u6 u7 u8
      obtain ⟨u0, u1, u2, u3, u4, u5, u6, u7, u8⟩ := B2.nine
      go_wp2_with fail
      refine (implDepthOf_any t _ _ ((h.below (below_of_alloc b1)).below b2) hz).mono ?_
      rintro e w3 ⟨rfl, b3⟩
      go_wp2_with fail
      all_goals go_ret
      all_goals refine ⟨ret_bool ?_, below_next (below_next (below_of_alloc b1) b2) b3⟩
      all_goals rw [hv.out]
      all_goals first
        | (rw [Bool.eq_iff_iff]; simp; done)
        | (rw [Bool.eq_iff_iff]; simp; omega)
        | (simp; omega)
    · have hv := hide (show t.valid = false by simp [Tm.valid, hs])
      go_enter Try.func10, Try.ntmps10
      go_wp2_with fail
      refine C.out.mono ?_
      rintro e w1 ⟨rfl, b1⟩
      have B1 := (Blk.new w _ _).under b1
      obtain ⟨u0, u1, u2, u3, u4, u5, u6, u7, u8⟩ := B1.nine
      go_wp2_with fail
      refine (implSizeOf_any t _ _ (h.below (below_of_alloc b1)) hz).mono ?_
      rintro e w2 ⟨rfl, b2⟩
      go_wp2_with fail
      go_ret
      exact ⟨ret_bool hv.out.symm, below_next (below_of_alloc b1) b2⟩
  | false =>
    rw [ho] at C
    replace C := hide C
    have hv := hide (show t.valid = false by simp [Tm.valid, ho])
    go_enter Try.func10, Try.ntmps10
    go_wp2_with fail
    refine C.out.mono ?_
    rintro e w1 ⟨rfl, b1⟩
    go_wp2_with fail
    go_ret
    exact ⟨ret_bool hv.out.symm, below_of_alloc b1⟩
end Go.Proofs.Ytmdmnchnkfjpjaa
