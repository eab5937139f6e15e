/-
  The walk of the reference's l8Made; LevelsOk and IsGenerated in both texts.
-/
import Derived.Test.YtpiaacidieeilaaLevI
namespace Go.Proofs.Ytpiaacidieeilaa
open Go.RowKit
set_option linter.unusedVariables false
set_option linter.unusedSimpArgs false

set_option maxHeartbeats 3200000 in
theorem l8Made_any (t : Tm) : ∀ (l : Lt) (m : Int) (w : World), Md w t l → lvOk t m = true →
    Calls Try.prog 49 #[.agg #[.int .i64 t.kind, .string t.name, .string t.other, .int .i64 t.n, .int .i64 t.type.kind, .slice l.ta l.tn l.tc, .int .i64 t.res.kind, .slice l.ra l.rn l.rc, .slice l.aa l.an l.ac], .int .i64 m] w fun e w' => e = .returned (.bool (lvMade t m)) ∧ Below w.heap.size w w' := by
  induction t using Tm.ind' with | h t ih => ?_
  intro l m w h hH
  have IH := hide ih
  clear ih
  obtain ⟨-, -, -, hr⟩ := h.shape
  clear h
  have hn : l.an ≤ 9223372036854775807 := by obtain ⟨_, h2, h3, _⟩ := hr; unfold maxLen at h3; omega
  have hall := lvMade_eq t m
  obtain ⟨m0, m2⟩ := lvOk_in hH
  replace hH := hide hH
  have hu : unspliced t m = ((t.kind != 11) || (m != 1)) := rfl
  by_cases hbad : t.kind = 11 ∧ m = 1
  · have gk := beq_iff_eq.2 hbad.1
    have gm := beq_iff_eq.2 hbad.2
    have hno := hide (show lvMade t m = false by rw [hall, hu]; simp [hbad.1, hbad.2])
    clear hbad hu hall
    go_enter Try.func49, Try.ntmps49
    go_wp2_with fail
    all_goals go_ret
    all_goals exact ⟨ret_bool hno.out.symm, below_new _ _⟩
  have hg : (t.kind == 11) = false ∨ (t.kind == 11) = true ∧ (m == 1) = false := by
    by_cases h1 : t.kind = 11
    · exact .inr ⟨beq_iff_eq.2 h1, beq_eq_false_iff_ne.2 fun h2 => hbad ⟨h1, h2⟩⟩
    · exact .inl (beq_eq_false_iff_ne.2 h1)
  have hy : unspliced t m = true := by
    rw [hu]
    by_cases h1 : t.kind = 11
    · have : m ≠ 1 := fun h2 => hbad ⟨h1, h2⟩
      simp [this]
    · simp [h1]
  rw [hy, Bool.true_and] at hall
  replace hall := hide hall
  clear hbad hu hy
  rcases hg with gk | ⟨gk, gm⟩
  all_goals
    go_enter Try.func49, Try.ntmps49
    go_wp2_with fail
    go_loopw [5] (fun i wr => ∃ j : Nat, j ≤ l.an ∧ i = .int .i64 j ∧ Hid (∀ i (h : i < t.args.length), i < j → lvMade t.args[i] (nextLv t.kind m) = true) ∧ Blk wr w.heap.size 35 #[.int .i64 t.kind, .string t.name, .string t.other, .int .i64 t.n, .int .i64 t.type.kind, .slice l.ta l.tn l.tc, .int .i64 t.res.kind, .slice l.ra l.rn l.rc, .slice l.aa l.an l.ac] ∧ Below w.heap.size w wr) (fun i _ => l.an - (intOf i).toNat)
    case atStart => exact ⟨0, by omega, rfl, fun i _ hi => by omega, Blk.new _ _ _, below_new _ _⟩
    case round =>
      obtain ⟨j, hj, rfl, HR, hB, hb⟩ := hrel
      have hsz := hb.size
      by_cases hjn : j < l.an
      · have hjx : j < t.args.length := by rw [← hr.1]; exact hjn
        obtain ⟨b, off, l', ha, hlt, hc, hd⟩ := (hr.below hb).get j hjx
        obtain ⟨e0, e1, e2, e3, e4, e5, e6, e7, e8⟩ := hc.nine
        obtain ⟨v0, v1, v2, v3, v4, v5, v6, v7, v8⟩ := hB.nine_at ha
        have i0 : (0 : Int) ≤ (j : Int) := by omega
        have i1 : (j : Int) < (l.an : Int) := by omega
        have hltd : b < wr.drew.heap.size := hlt
        have hcd : CellsAt wr.drew b (off + j * 9) (tcells t.args[j] l') := hc
        have hdd : Md wr.drew t.args[j] l' := hd.below (below_drew wr)
        have hbd : Below w.heap.size w wr.drew := hb.drew
        have CN := fun W => l8Next_any t l m W m0 m2
        rw [ha] at CN
        replace CN := hide CN
        have HA := hide ha
        replace hc := hide hc
        replace hcd := hide hcd
        clear ha
        cases hq : lvMade t.args[j] (nextLv t.kind m) with
        | true =>
          have C := hide (fun W hW => IH.out _ (List.getElem_mem hjx) l' (nextLv t.kind m) W hW (lvOk_arg hH.out (List.getElem_mem hjx)))
          rw [hq] at C
          replace hq := hide hq
          go_wp2_with fail
          go_region_held3 (fun W => (W.cell? ⟨w.heap.size, 0, none⟩ = some (.int .i64 t.kind) ∧ W.cell? ⟨w.heap.size, 1, none⟩ = some (.string t.name) ∧ W.cell? ⟨w.heap.size, 2, none⟩ = some (.string t.other) ∧ W.cell? ⟨w.heap.size, 3, none⟩ = some (.int .i64 t.n) ∧ W.cell? ⟨w.heap.size, 4, none⟩ = some (.int .i64 t.type.kind) ∧ W.cell? ⟨w.heap.size, 5, none⟩ = some (.slice l.ta l.tn l.tc) ∧ W.cell? ⟨w.heap.size, 6, none⟩ = some (.int .i64 t.res.kind) ∧ W.cell? ⟨w.heap.size, 7, none⟩ = some (.slice l.ra l.rn l.rc) ∧ W.cell? ⟨w.heap.size, 8, none⟩ = some (.slice (some ⟨b, off, none⟩) l.an l.ac)) ∧ (W.cell? ⟨b, off + j * 9, none⟩ = some (.int .i64 t.args[j].kind) ∧ W.cell? ⟨b, off + j * 9 + 1, none⟩ = some (.string t.args[j].name) ∧ W.cell? ⟨b, off + j * 9 + 2, none⟩ = some (.string t.args[j].other) ∧ W.cell? ⟨b, off + j * 9 + 3, none⟩ = some (.int .i64 t.args[j].n) ∧ W.cell? ⟨b, off + j * 9 + 4, none⟩ = some (.int .i64 t.args[j].type.kind) ∧ W.cell? ⟨b, off + j * 9 + 5, none⟩ = some (.slice l'.ta l'.tn l'.tc) ∧ W.cell? ⟨b, off + j * 9 + 6, none⟩ = some (.int .i64 t.args[j].res.kind) ∧ W.cell? ⟨b, off + j * 9 + 7, none⟩ = some (.slice l'.ra l'.rn l'.rc) ∧ W.cell? ⟨b, off + j * 9 + 8, none⟩ = some (.slice l'.aa l'.an l'.ac)))
            (first | exact ⟨⟨v0, v1, v2, v3, v4, v5, v6, v7, v8⟩, e0, e1, e2, e3, e4, e5, e6, e7, e8⟩ | exact ⟨B1.nine_at HA.out, c1.out.nine⟩ | exact ⟨B2.nine_at HA.out, c2.out.nine⟩)
            (first
              | (go_at_call 72; (with_reducible refine (CN.out _).mono ?_); rintro e w1 ⟨rfl, b1⟩
                 have B1 : Blk w1 _ _ _ := Blk.under (w := wr.drew) hB b1
                 have c1 := hide (hcd.out.below hltd b1)
                 have l1 := Nat.lt_of_lt_of_le hltd b1.size
                 have d1 := hdd.below b1
                 have k1 := hbd.trans (b1.mono hbd.size))
              | (go_at_call 49; (with_reducible refine (C.out _ d1).mono ?_); rintro e w2 ⟨rfl, b2⟩
                 have B2 := B1.under b2
                 have c2 := hide (c1.out.below l1 b2)
                 have k2 := k1.trans (b2.mono k1.size)))
          go_wp2_with fail
          go_roundw
          case rel =>
            refine ⟨j + 1, by omega, by go_num, fun i hi hij => ?_, (by first | exact B2 | (have := B2; rw [HA.out] at this; exact this)), k2⟩
            by_cases hij' : i < j
            · exact HR.out i hi hij'
            · obtain rfl : i = j := by omega
              exact hq.out
          case measure => simp [intOf]; omega
        | false =>
          have C := hide (fun W hW => IH.out _ (List.getElem_mem hjx) l' (nextLv t.kind m) W hW (lvOk_arg hH.out (List.getElem_mem hjx)))
          rw [hq] at C
          replace hq := hide hq
          go_wp2_with fail
          go_region_held3 (fun W => (W.cell? ⟨w.heap.size, 0, none⟩ = some (.int .i64 t.kind) ∧ W.cell? ⟨w.heap.size, 1, none⟩ = some (.string t.name) ∧ W.cell? ⟨w.heap.size, 2, none⟩ = some (.string t.other) ∧ W.cell? ⟨w.heap.size, 3, none⟩ = some (.int .i64 t.n) ∧ W.cell? ⟨w.heap.size, 4, none⟩ = some (.int .i64 t.type.kind) ∧ W.cell? ⟨w.heap.size, 5, none⟩ = some (.slice l.ta l.tn l.tc) ∧ W.cell? ⟨w.heap.size, 6, none⟩ = some (.int .i64 t.res.kind) ∧ W.cell? ⟨w.heap.size, 7, none⟩ = some (.slice l.ra l.rn l.rc) ∧ W.cell? ⟨w.heap.size, 8, none⟩ = some (.slice (some ⟨b, off, none⟩) l.an l.ac)) ∧ (W.cell? ⟨b, off + j * 9, none⟩ = some (.int .i64 t.args[j].kind) ∧ W.cell? ⟨b, off + j * 9 + 1, none⟩ = some (.string t.args[j].name) ∧ W.cell? ⟨b, off + j * 9 + 2, none⟩ = some (.string t.args[j].other) ∧ W.cell? ⟨b, off + j * 9 + 3, none⟩ = some (.int .i64 t.args[j].n) ∧ W.cell? ⟨b, off + j * 9 + 4, none⟩ = some (.int .i64 t.args[j].type.kind) ∧ W.cell? ⟨b, off + j * 9 + 5, none⟩ = some (.slice l'.ta l'.tn l'.tc) ∧ W.cell? ⟨b, off + j * 9 + 6, none⟩ = some (.int .i64 t.args[j].res.kind) ∧ W.cell? ⟨b, off + j * 9 + 7, none⟩ = some (.slice l'.ra l'.rn l'.rc) ∧ W.cell? ⟨b, off + j * 9 + 8, none⟩ = some (.slice l'.aa l'.an l'.ac)))
            (first | exact ⟨⟨v0, v1, v2, v3, v4, v5, v6, v7, v8⟩, e0, e1, e2, e3, e4, e5, e6, e7, e8⟩ | exact ⟨B1.nine_at HA.out, c1.out.nine⟩ | exact ⟨B2.nine_at HA.out, c2.out.nine⟩)
            (first
              | (go_at_call 72; (with_reducible refine (CN.out _).mono ?_); rintro e w1 ⟨rfl, b1⟩
                 have B1 : Blk w1 _ _ _ := Blk.under (w := wr.drew) hB b1
                 have c1 := hide (hcd.out.below hltd b1)
                 have l1 := Nat.lt_of_lt_of_le hltd b1.size
                 have d1 := hdd.below b1
                 have k1 := hbd.trans (b1.mono hbd.size))
              | (go_at_call 49; (with_reducible refine (C.out _ d1).mono ?_); rintro e w2 ⟨rfl, b2⟩
                 have B2 := B1.under b2
                 have c2 := hide (c1.out.below l1 b2)
                 have k2 := k1.trans (b2.mono k1.size)))
          go_wp2_with fail
          go_ret
          exact ⟨ret_bool (by rw [hall.out, all_no hjx hq.out]), k2⟩
      · have h4 : l.an = t.args.length := hr.1
        obtain ⟨v0, v1, v2, v3, v4, v5, v6, v7, v8⟩ := hB.nine
        have hfin := hide (show lvMade t m = true by rw [hall.out]; exact all_yes fun i hi => HR.out i hi (by omega))
        clear h4
        go_wp2_with fail
        go_ret
        exact ⟨ret_bool hfin.out.symm, hb⟩

/-- The levels are right, and the term is one. -/
def Tm.levelsOk (t : Tm) (m : Int) : Bool := t.ok && lvOk t m
def Tm.generated (t : Tm) (m : Int) : Bool := t.levelsOk m && lvMade t m

set_option maxHeartbeats 800000 in
theorem specLevelsOk_any (t : Tm) (l : Lt) (m : Int) (w : World) (h : Md w t l) (hw : t.wt ≤ 1048576) :
    Calls Try.prog 19 #[.agg #[.int .i64 t.kind, .string t.name, .string t.other, .int .i64 t.n, .int .i64 t.type.kind, .slice l.ta l.tn l.tc, .int .i64 t.res.kind, .slice l.ra l.rn l.rc, .slice l.aa l.an l.ac], .int .i64 m] w fun e w' => e = .returned (.bool (t.levelsOk m)) ∧ Below w.heap.size w w' := by
  have h1 : Md (w.alloc (.cells #[.int .i64 t.kind, .string t.name, .string t.other, .int .i64 t.n, .int .i64 t.type.kind, .slice l.ta l.tn l.tc, .int .i64 t.res.kind, .slice l.ra l.rn l.rc, .slice l.aa l.an l.ac] 35)) t l := h.below (below_new _ _)
  have hv : t.levelsOk m = (t.ok && lvOk t m) := rfl
  cases ho : t.ok with
  | false =>
    have C := specIsTerm_any t l _ h1 hw
    rw [ho] at C hv
    replace C := hide C
    replace hv := hide hv
    clear ho
    go_enter Try.func19, Try.ntmps19
    go_wp2_with (go_at_call 11; (with_reducible refine C.out.mono ?_); rintro e w1 ⟨rfl, b1⟩)
    go_ret
    exact ⟨ret_bool (by rw [hv.out]; rfl), below_of_alloc b1⟩
  | true =>
    have C := specIsTerm_any t l _ h1 hw
    rw [ho] at C hv
    replace C := hide C
    replace hv := hide hv
    clear ho
    go_enter Try.func19, Try.ntmps19
    go_wp2_with (first
      | (go_at_call 11; (with_reducible refine C.out.mono ?_); rintro e w1 ⟨rfl, b1⟩
         have B1 := (Blk.new w _ _).under b1
         have h2 := h1.below b1
         obtain ⟨u0, u1, u2, u3, u4, u5, u6, u7, u8⟩ := B1.nine)
      | (go_at_call 45; (with_reducible refine (l8Ok_any t l m _ h2).mono ?_); rintro e w2 ⟨rfl, b2⟩))
    go_ret
    exact ⟨ret_bool (by rw [hv.out]; rfl), below_next (below_of_alloc b1) b2⟩
set_option maxHeartbeats 800000 in
theorem implLevelsOk_any (t : Tm) (l : Lt) (m : Int) (w : World) (h : Md w t l) (hw : t.wt ≤ 1048576) :
    Calls Try.prog 20 #[.agg #[.int .i64 t.kind, .string t.name, .string t.other, .int .i64 t.n, .int .i64 t.type.kind, .slice l.ta l.tn l.tc, .int .i64 t.res.kind, .slice l.ra l.rn l.rc, .slice l.aa l.an l.ac], .int .i64 m] w fun e w' => e = .returned (.bool (t.levelsOk m)) ∧ Below w.heap.size w w' := by
  have h1 : Md (w.alloc (.cells #[.int .i64 t.kind, .string t.name, .string t.other, .int .i64 t.n, .int .i64 t.type.kind, .slice l.ta l.tn l.tc, .int .i64 t.res.kind, .slice l.ra l.rn l.rc, .slice l.aa l.an l.ac] 35)) t l := h.below (below_new _ _)
  have hv : t.levelsOk m = (t.ok && lvOk t m) := rfl
  cases ho : t.ok with
  | false =>
    have C := implIsTerm_any t l _ h1 hw
    rw [ho] at C hv
    replace C := hide C
    replace hv := hide hv
    clear ho
    go_enter Try.func20, Try.ntmps20
    go_wp2_with (go_at_call 13; (with_reducible refine C.out.mono ?_); rintro e w1 ⟨rfl, b1⟩)
    go_ret
    exact ⟨ret_bool (by rw [hv.out]; rfl), below_of_alloc b1⟩
  | true =>
    have C := implIsTerm_any t l _ h1 hw
    rw [ho] at C hv
    replace C := hide C
    replace hv := hide hv
    clear ho
    go_enter Try.func20, Try.ntmps20
    go_wp2_with (first
      | (go_at_call 13; (with_reducible refine C.out.mono ?_); rintro e w1 ⟨rfl, b1⟩
         have B1 := (Blk.new w _ _).under b1
         have h2 := h1.below b1
         obtain ⟨u0, u1, u2, u3, u4, u5, u6, u7, u8⟩ := B1.nine)
      | (go_at_call 46; (with_reducible refine (levelsOk_any t l m _ h2 trivial).mono ?_); rintro e w2 ⟨rfl, b2⟩))
    go_ret
    exact ⟨ret_bool (by rw [hv.out]; rfl), below_next (below_of_alloc b1) b2⟩
set_option maxHeartbeats 800000 in
theorem specIsGenerated_any (t : Tm) (l : Lt) (m : Int) (w : World) (h : Md w t l) (hw : t.wt ≤ 1048576) :
    Calls Try.prog 21 #[.agg #[.int .i64 t.kind, .string t.name, .string t.other, .int .i64 t.n, .int .i64 t.type.kind, .slice l.ta l.tn l.tc, .int .i64 t.res.kind, .slice l.ra l.rn l.rc, .slice l.aa l.an l.ac], .int .i64 m] w fun e w' => e = .returned (.bool (t.generated m)) ∧ Below w.heap.size w w' := by
  have h1 : Md (w.alloc (.cells #[.int .i64 t.kind, .string t.name, .string t.other, .int .i64 t.n, .int .i64 t.type.kind, .slice l.ta l.tn l.tc, .int .i64 t.res.kind, .slice l.ra l.rn l.rc, .slice l.aa l.an l.ac] 35)) t l := h.below (below_new _ _)
  have hv : t.generated m = (t.levelsOk m && lvMade t m) := rfl
  cases ho : t.levelsOk m with
  | false =>
    have C := specLevelsOk_any t l m _ h1 hw
    rw [ho] at C hv
    replace C := hide C
    replace hv := hide hv
    clear ho
    go_enter Try.func21, Try.ntmps21
    go_wp2_with (go_at_call 19; (with_reducible refine C.out.mono ?_); rintro e w1 ⟨rfl, b1⟩)
    go_ret
    exact ⟨ret_bool (by rw [hv.out]; rfl), below_of_alloc b1⟩
  | true =>
    have C := specLevelsOk_any t l m _ h1 hw
    have hl : lvOk t m = true := by
      rw [Tm.levelsOk, Bool.and_eq_true] at ho
      exact ho.2
    rw [ho] at C hv
    replace C := hide C
    replace hv := hide hv
    clear ho
    go_enter Try.func21, Try.ntmps21
    go_wp2_with (first
      | (go_at_call 19; (with_reducible refine C.out.mono ?_); rintro e w1 ⟨rfl, b1⟩
         have B1 := (Blk.new w _ _).under b1
         have h2 := h1.below b1
         obtain ⟨u0, u1, u2, u3, u4, u5, u6, u7, u8⟩ := B1.nine)
      | (go_at_call 49; (with_reducible refine (l8Made_any t l m _ h2 hl).mono ?_); rintro e w2 ⟨rfl, b2⟩))
    go_ret
    exact ⟨ret_bool (by rw [hv.out]; rfl), below_next (below_of_alloc b1) b2⟩
set_option maxHeartbeats 800000 in
theorem implIsGenerated_any (t : Tm) (l : Lt) (m : Int) (w : World) (h : Md w t l) (hw : t.wt ≤ 1048576) :
    Calls Try.prog 22 #[.agg #[.int .i64 t.kind, .string t.name, .string t.other, .int .i64 t.n, .int .i64 t.type.kind, .slice l.ta l.tn l.tc, .int .i64 t.res.kind, .slice l.ra l.rn l.rc, .slice l.aa l.an l.ac], .int .i64 m] w fun e w' => e = .returned (.bool (t.generated m)) ∧ Below w.heap.size w w' := by
  have h1 : Md (w.alloc (.cells #[.int .i64 t.kind, .string t.name, .string t.other, .int .i64 t.n, .int .i64 t.type.kind, .slice l.ta l.tn l.tc, .int .i64 t.res.kind, .slice l.ra l.rn l.rc, .slice l.aa l.an l.ac] 35)) t l := h.below (below_new _ _)
  have hv : t.generated m = (t.levelsOk m && lvMade t m) := rfl
  cases ho : t.levelsOk m with
  | false =>
    have C := implLevelsOk_any t l m _ h1 hw
    rw [ho] at C hv
    replace C := hide C
    replace hv := hide hv
    clear ho
    go_enter Try.func22, Try.ntmps22
    go_wp2_with (go_at_call 20; (with_reducible refine C.out.mono ?_); rintro e w1 ⟨rfl, b1⟩)
    go_ret
    exact ⟨ret_bool (by rw [hv.out]; rfl), below_of_alloc b1⟩
  | true =>
    have C := implLevelsOk_any t l m _ h1 hw
    have hl : lvOk t m = true := by
      rw [Tm.levelsOk, Bool.and_eq_true] at ho
      exact ho.2
    rw [ho] at C hv
    replace C := hide C
    replace hv := hide hv
    clear ho
    go_enter Try.func22, Try.ntmps22
    go_wp2_with (first
      | (go_at_call 20; (with_reducible refine C.out.mono ?_); rintro e w1 ⟨rfl, b1⟩
         have B1 := (Blk.new w _ _).under b1
         have h2 := h1.below b1
         obtain ⟨u0, u1, u2, u3, u4, u5, u6, u7, u8⟩ := B1.nine)
      | (go_at_call 46; (with_reducible refine (levelsMade_any t l m _ h2 hl).mono ?_); rintro e w2 ⟨rfl, b2⟩))
    go_ret
    exact ⟨ret_bool (by rw [hv.out]; rfl), below_next (below_of_alloc b1) b2⟩
end Go.Proofs.Ytpiaacidieeilaa
