/-
  The walks of IsResult in both texts.
-/
import Derived.Test.YtpiaacidieeilaaLevJ
namespace Go.Proofs.Ytpiaacidieeilaa
open Go.RowKit
set_option linter.unusedVariables false
set_option linter.unusedSimpArgs false

/-- What is asked of the part of a quote. -/
def Tm.quoted (t : Tm) : Bool := lvOk t 0 && t.args.all fun x => lvMade x 1
/-- The kinds of numbers, truth values and functions. -/
def Tm.closedKind (t : Tm) : Bool := t.kind == 2 || (t.kind == 3 || (t.kind == 6 || t.kind == 9))
/-- What is asked of a term that is to be a result. -/
def Tm.resK (t : Tm) : Bool := t.closedKind || (t.kind == 10 && t.quoted)
/-- A result: a number, a truth value, a function, or generated code. -/
def Tm.result (t : Tm) : Bool := t.ok && t.resK
theorem ok_quote {t : Tm} (h : t.ok = true) (hk : t.kind = 10) : ∃ x, t.args = [x] ∧ x.ok = true := by
  rw [Tm.ok_eq, Bool.and_eq_true, nodeS, Bool.and_eq_true] at h
  obtain ⟨⟨-, h1⟩, h2⟩ := h
  rw [hk] at h1
  simp [arityS] at h1
  match hx : t.args with
  | [] => rw [hx] at h1; simp at h1
  | [x] =>
    refine ⟨x, rfl, ?_⟩
    rw [hx] at h2
    simpa using h2
  | x :: y :: zs => rw [hx] at h1; simp at h1; omega
theorem quoted_one {t x : Tm} (hk : t.kind = 10) (hx : t.args = [x]) : t.quoted = (lvOk x 1 && lvMade x 1) ∧ lvOk t 0 = lvOk x 1 := by
  have h1 : lvOk t 0 = lvOk x 1 := by
    rw [lvOk_eq, hk, hx]
    simp [inB, nextLv]
  rw [Tm.quoted, h1, hx]
  simp

/-- The kind's tests, all decided. -/
theorem kind_cases (t : Tm) : (t.closedKind = true ∧ t.kind ≠ 10 ∧ ((t.kind == 2) = true ∨ ((t.kind == 2) = false ∧ (t.kind == 3) = true) ∨ ((t.kind == 2) = false ∧ (t.kind == 3) = false ∧ (t.kind == 6) = true) ∨ ((t.kind == 2) = false ∧ (t.kind == 3) = false ∧ (t.kind == 6) = false ∧ (t.kind == 9) = true))) ∨
    (t.closedKind = false ∧ ((t.kind == 2) = false ∧ (t.kind == 3) = false ∧ (t.kind == 6) = false ∧ (t.kind == 9) = false)) := by
  unfold Tm.closedKind
  cases h2 : (t.kind == 2) <;> cases h3 : (t.kind == 3) <;> cases h6 : (t.kind == 6) <;> cases h9 : (t.kind == 9) <;> simp_all

set_option maxHeartbeats 1600000 in
theorem l10Result_any (t : Tm) (l : Lt) (w : World) (h : Md w t l) (ho : t.ok = true) :
    Calls Try.prog 53 #[.agg #[.int .i64 t.kind, .string t.name, .string t.other, .int .i64 t.n, .int .i64 t.type.kind, .slice l.ta l.tn l.tc, .int .i64 t.res.kind, .slice l.ra l.rn l.rc, .slice l.aa l.an l.ac]] w fun e w' => e = .returned (.bool t.resK) ∧ Below w.heap.size w w' := by
  have hv : ∀ b, t.closedKind = b → t.resK = (b || (t.kind == 10 && t.quoted)) := fun b hb => by rw [Tm.resK, hb]
  have k0 : Below w.heap.size w (w.alloc (.cells #[.int .i64 t.kind, .string t.name, .string t.other, .int .i64 t.n, .int .i64 t.type.kind, .slice l.ta l.tn l.tc, .int .i64 t.res.kind, .slice l.ra l.rn l.rc, .slice l.aa l.an l.ac] 35)) := below_new _ _
  rcases kind_cases t with ⟨hc, hn, hk⟩ | ⟨hc, g2, g3, g6, g9⟩
  · have hf := hide (hv true hc)
    clear hv hc hn
    rcases hk with g2 | ⟨g2, g3⟩ | ⟨g2, g3, g6⟩ | ⟨g2, g3, g6, g9⟩
    all_goals
      go_enter Try.func53, Try.ntmps53
      go_wp2_with fail
      all_goals go_ret
      all_goals exact ⟨ret_bool (by rw [hf.out]; rfl), k0⟩
  · have hf := hv false hc
    clear hv hc
    by_cases h10 : t.kind = 10
    · have g10 := beq_iff_eq.2 h10
      obtain ⟨x, hx, hxo⟩ := ok_quote ho h10
      obtain ⟨q1, q2⟩ := quoted_one h10 hx
      have C := fun W (hW : Below w.heap.size w W) => l8Ok_any t l 0 W (h.below hW)
      rw [q2] at C
      rw [g10, q1] at hf
      obtain ⟨-, -, -, hr⟩ := h.shape
      clear h10 q1 q2
      cases hq : lvOk x 1 with
      | false =>
        rw [hq] at C hf
        replace hf := hide hf
        replace C := hide C
        replace hx := hide hx
        clear hq hr h
        go_enter Try.func53, Try.ntmps53
        go_wp2_with (go_at_call 45; (with_reducible refine (C.out _ k0).mono ?_); rintro e w1 ⟨rfl, b1⟩)
        all_goals go_ret
        all_goals exact ⟨ret_bool (by rw [hf.out]; rfl), below_of_alloc b1⟩
      | true =>
        rw [hq] at C hf
        have B0 := Blk.new w 35 #[.int .i64 t.kind, .string t.name, .string t.other, .int .i64 t.n, .int .i64 t.type.kind, .slice l.ta l.tn l.tc, .int .i64 t.res.kind, .slice l.ra l.rn l.rc, .slice l.aa l.an l.ac]
        have hlx : 0 < t.args.length := by rw [hx]; simp
        have han : l.an = 1 := by rw [hr.1, hx]; rfl
        have key : ∀ W, Below w.heap.size w W → ∃ b off l', l.aa = some ⟨b, off, none⟩ ∧ CellsAt W b off (tcells x l') ∧ Md W x l' := fun W hW => by
          obtain ⟨b, off, l', e1, -, e2, e3⟩ := (hr.below hW).get 0 hlx
          simp only [hx, List.getElem_cons_zero, Nat.zero_mul, Nat.add_zero] at e2 e3
          exact ⟨b, off, l', e1, e2, e3⟩
        replace hf := hide hf
        replace C := hide C
        replace hx := hide hx
        have HQ := hide hq
        replace hlx := hide hlx
        have HAN := hide han
        clear hq hr h han
        go_enter Try.func53, Try.ntmps53
        go_wp2_with fail
        refine (C.out _ k0).mono ?_
        rintro e w1 ⟨rfl, b1⟩
        have k1 := below_of_alloc b1
        have B1 := B0.under b1
        obtain ⟨b, off, l', ha, hc, hd⟩ := key w1 k1
        obtain ⟨e0, e1, e2, e3, e4, e5, e6, e7, e8⟩ := hc.nine
        obtain ⟨v0, v1, v2, v3, v4, v5, v6, v7, v8⟩ := B1.nine
        rw [ha, HAN.out] at v8
        clear hc ha key B0 B1
        go_wp2_with (go_at_call 49; (with_reducible refine (l8Made_any x l' 1 _ hd HQ.out).mono ?_); rintro e w2 ⟨rfl, b2⟩)
        all_goals go_ret
        all_goals exact ⟨ret_bool (by rw [hf.out]; rfl), below_next k1 b2⟩
    · have g10 := beq_eq_false_iff_ne.2 h10
      rw [g10] at hf
      replace hf := hide hf
      go_enter Try.func53, Try.ntmps53
      go_wp2_with fail
      all_goals go_ret
      all_goals exact ⟨ret_bool (by rw [hf.out]; rfl), k0⟩

set_option maxHeartbeats 800000 in
theorem specIsResult_any (t : Tm) (l : Lt) (w : World) (h : Md w t l) (hw : t.wt ≤ 1048576) :
    Calls Try.prog 25 #[.agg #[.int .i64 t.kind, .string t.name, .string t.other, .int .i64 t.n, .int .i64 t.type.kind, .slice l.ta l.tn l.tc, .int .i64 t.res.kind, .slice l.ra l.rn l.rc, .slice l.aa l.an l.ac]] w fun e w' => e = .returned (.bool t.result) ∧ Below w.heap.size w w' := by
  have h1 : Md (w.alloc (.cells #[.int .i64 t.kind, .string t.name, .string t.other, .int .i64 t.n, .int .i64 t.type.kind, .slice l.ta l.tn l.tc, .int .i64 t.res.kind, .slice l.ra l.rn l.rc, .slice l.aa l.an l.ac] 35)) t l := h.below (below_new _ _)
  have hv : t.result = (t.ok && t.resK) := rfl
  cases ho : t.ok with
  | false =>
    have C := specIsTerm_any t l _ h1 hw
    rw [ho] at C hv
    replace C := hide C
    replace hv := hide hv
    clear ho
    go_enter Try.func25, Try.ntmps25
    go_wp2_with (go_at_call 11; (with_reducible refine C.out.mono ?_); rintro e w1 ⟨rfl, b1⟩)
    go_ret
    exact ⟨ret_bool (by rw [hv.out]; rfl), below_of_alloc b1⟩
  | true =>
    have C := specIsTerm_any t l _ h1 hw
    have HO := hide ho
    rw [ho] at C hv
    replace C := hide C
    replace hv := hide hv
    clear ho
    go_enter Try.func25, Try.ntmps25
    go_wp2_with (first
      | (go_at_call 11; (with_reducible refine C.out.mono ?_); rintro e w1 ⟨rfl, b1⟩
         have B1 := (Blk.new w _ _).under b1
         have h2 := h1.below b1
         obtain ⟨u0, u1, u2, u3, u4, u5, u6, u7, u8⟩ := B1.nine)
      | (go_at_call 53; (with_reducible refine (l10Result_any t l _ h2 HO.out).mono ?_); rintro e w2 ⟨rfl, b2⟩))
    go_ret
    exact ⟨ret_bool (by rw [hv.out]; rfl), below_next (below_of_alloc b1) b2⟩

set_option maxHeartbeats 1600000 in
theorem implIsResult_any (t : Tm) (l : Lt) (w : World) (h : Md w t l) (hw : t.wt ≤ 1048576) :
    Calls Try.prog 26 #[.agg #[.int .i64 t.kind, .string t.name, .string t.other, .int .i64 t.n, .int .i64 t.type.kind, .slice l.ta l.tn l.tc, .int .i64 t.res.kind, .slice l.ra l.rn l.rc, .slice l.aa l.an l.ac]] w fun e w' => e = .returned (.bool t.result) ∧ Below w.heap.size w w' := by
  have h1 : Md (w.alloc (.cells #[.int .i64 t.kind, .string t.name, .string t.other, .int .i64 t.n, .int .i64 t.type.kind, .slice l.ta l.tn l.tc, .int .i64 t.res.kind, .slice l.ra l.rn l.rc, .slice l.aa l.an l.ac] 35)) t l := h.below (below_new _ _)
  have hv : t.result = (t.ok && (t.closedKind || (t.kind == 10 && t.quoted))) := rfl
  have k0 : Below w.heap.size w (w.alloc (.cells #[.int .i64 t.kind, .string t.name, .string t.other, .int .i64 t.n, .int .i64 t.type.kind, .slice l.ta l.tn l.tc, .int .i64 t.res.kind, .slice l.ra l.rn l.rc, .slice l.aa l.an l.ac] 35)) := below_new _ _
  have C := implIsTerm_any t l _ h1 hw
  rcases kind_cases t with ⟨hc, hn, hk⟩ | ⟨hc, g2, g3, g6, g9⟩
  · rw [hc, Bool.true_or, Bool.and_true] at hv
    replace hv := hide hv
    replace C := hide C
    clear hc hn
    rcases hk with g2 | ⟨g2, g3⟩ | ⟨g2, g3, g6⟩ | ⟨g2, g3, g6, g9⟩
    all_goals
      go_enter Try.func26, Try.ntmps26
      go_wp2_with (go_at_call 13; (with_reducible refine C.out.mono ?_); rintro e w1 ⟨rfl, b1⟩)
      all_goals go_ret
      all_goals exact ⟨ret_bool hv.out.symm, below_of_alloc b1⟩
  · rw [hc, Bool.false_or] at hv
    by_cases h10 : t.kind = 10
    · have g10 := beq_iff_eq.2 h10
      cases ho : t.ok with
      | false =>
        rw [ho, Bool.false_and] at hv
        rw [ho] at C
        replace hv := hide hv
        replace C := hide C
        clear ho h10 hc
        go_enter Try.func26, Try.ntmps26
        go_wp2_with (go_at_call 13; (with_reducible refine C.out.mono ?_); rintro e w1 ⟨rfl, b1⟩)
        all_goals go_ret
        all_goals exact ⟨ret_bool hv.out.symm, below_of_alloc b1⟩
      | true =>
        obtain ⟨x, hx, hxo⟩ := ok_quote ho h10
        obtain ⟨q1, q2⟩ := quoted_one h10 hx
        rw [ho, g10, Bool.true_and, Bool.true_and, q1] at hv
        rw [ho] at C
        obtain ⟨-, -, -, hr⟩ := h.shape
        have hwx : x.wt ≤ 1048576 := Tm.wt_arg (t := t) (by rw [hx]; simp) hw
        have hlx : 0 < t.args.length := by rw [hx]; simp
        have han : l.an = 1 := by rw [hr.1, hx]; rfl
        have hgen : x.generated 1 = (lvOk x 1 && lvMade x 1) := by rw [Tm.generated, Tm.levelsOk, hxo, Bool.true_and]
        rw [← hgen] at hv
        have key : ∀ W, Below w.heap.size w W → ∃ b off l', l.aa = some ⟨b, off, none⟩ ∧ CellsAt W b off (tcells x l') ∧ Md W x l' := fun W hW => by
          obtain ⟨b, off, l', e1, -, e2, e3⟩ := (hr.below hW).get 0 hlx
          simp only [hx, List.getElem_cons_zero, Nat.zero_mul, Nat.add_zero] at e2 e3
          exact ⟨b, off, l', e1, e2, e3⟩
        have B0 := Blk.new w 35 #[.int .i64 t.kind, .string t.name, .string t.other, .int .i64 t.n, .int .i64 t.type.kind, .slice l.ta l.tn l.tc, .int .i64 t.res.kind, .slice l.ra l.rn l.rc, .slice l.aa l.an l.ac]
        replace hv := hide hv
        replace C := hide C
        replace hx := hide hx
        replace hlx := hide hlx
        have HAN := hide han
        clear ho h10 hc q1 q2 hgen hxo hr h han
        go_enter Try.func26, Try.ntmps26
        go_wp2_with fail
        refine C.out.mono ?_
        rintro e w1 ⟨rfl, b1⟩
        have k1 := below_of_alloc b1
        have B1 := B0.under b1
        obtain ⟨b, off, l', ha, hc, hd⟩ := key w1 k1
        obtain ⟨e0, e1, e2, e3, e4, e5, e6, e7, e8⟩ := hc.nine
        obtain ⟨v0, v1, v2, v3, v4, v5, v6, v7, v8⟩ := B1.nine
        rw [ha, HAN.out] at v8
        clear hc ha key B0 B1
        go_wp2_with (go_at_call 22; (with_reducible refine (implIsGenerated_any x l' 1 _ hd hwx).mono ?_); rintro e w2 ⟨rfl, b2⟩)
        all_goals go_ret
        all_goals exact ⟨ret_bool (by rw [hv.out]), below_next k1 b2⟩
    · have g10 := beq_eq_false_iff_ne.2 h10
      rw [g10, Bool.false_and, Bool.and_false] at hv
      replace hv := hide hv
      clear h10 hc
      go_enter Try.func26, Try.ntmps26
      go_wp2_with fail
      all_goals go_ret
      all_goals exact ⟨ret_bool hv.out.symm, k0⟩
end Go.Proofs.Ytpiaacidieeilaa
