/-
  The walks of the reference's functions on levels, and of the program's partLevel.
-/
import Derived.Test.YtknlbhclfeldbaaLevP
import Derived.Deep.RegionHeld3
namespace Go.Proofs.Ytknlbhclfeldbaa
open Go.RowKit
set_option linter.unusedVariables false
set_option linter.unusedSimpArgs false

theorem CellsAt.below {w w' : World} {b off : Nat} {vs : List Value} (h : CellsAt w b off vs) (hl : b < w.heap.size) (hb : Below w.heap.size w w') : CellsAt w' b off vs :=
  h.keep fun o _ _ => hb.cell (p := ⟨b, o, none⟩) hl
theorem Blk.nine_at {w : World} {g T : Nat} {t : Tm} {l : Lt} {p : Option Addr} (h : Blk w g T #[.int .i64 t.kind, .string t.name, .string t.other, .int .i64 t.n, .int .i64 t.type.kind, .slice l.ta l.tn l.tc, .int .i64 t.res.kind, .slice l.ra l.rn l.rc, .slice l.aa l.an l.ac]) (ha : l.aa = p) : (w.cell? ⟨g, 0, none⟩ = some (.int .i64 t.kind) ∧ w.cell? ⟨g, 1, none⟩ = some (.string t.name) ∧ w.cell? ⟨g, 2, none⟩ = some (.string t.other) ∧ w.cell? ⟨g, 3, none⟩ = some (.int .i64 t.n) ∧ w.cell? ⟨g, 4, none⟩ = some (.int .i64 t.type.kind) ∧ w.cell? ⟨g, 5, none⟩ = some (.slice l.ta l.tn l.tc) ∧ w.cell? ⟨g, 6, none⟩ = some (.int .i64 t.res.kind) ∧ w.cell? ⟨g, 7, none⟩ = some (.slice l.ra l.rn l.rc) ∧ w.cell? ⟨g, 8, none⟩ = some (.slice p l.an l.ac)) := by
  subst ha
  exact h.nine

theorem l8Next_any (t : Tm) (l : Lt) (m : Int) (w : World) (h0 : 0 ≤ m) (h2 : m ≤ 2) : Calls Try.prog 63 #[.agg #[.int .i64 t.kind, .string t.name, .string t.other, .int .i64 t.n, .int .i64 t.type.kind, .slice l.ta l.tn l.tc, .int .i64 t.res.kind, .slice l.ra l.rn l.rc, .slice l.aa l.an l.ac], .int .i64 m] w fun e w' => e = .returned (.int .i64 (nextLv t.kind m)) ∧ Below w.heap.size w w' := by
  by_cases ha : t.kind = 10
  · have g := beq_iff_eq.2 ha
    go_enter Try.func63, Try.ntmps63
    go_wp2_with fail
    all_goals go_ret
    all_goals exact ⟨ret_int (by simp [nextLv, ha]), below_new _ _⟩
  · have g := beq_eq_false_iff_ne.2 ha
    by_cases hb : t.kind = 11
    · have g' := beq_iff_eq.2 hb
      go_enter Try.func63, Try.ntmps63
      go_wp2_with fail
      all_goals go_ret
      all_goals exact ⟨ret_int (by simp [nextLv, hb]), below_new _ _⟩
    · have g' := beq_eq_false_iff_ne.2 hb
      go_enter Try.func63, Try.ntmps63
      go_wp2_with fail
      all_goals go_ret
      all_goals exact ⟨ret_int (by simp [nextLv, ha, hb]), below_new _ _⟩
theorem partLevel_any (t : Tm) (l : Lt) (m : Int) (w : World) (h0 : 0 ≤ m) (h2 : m ≤ 2) : Calls Try.prog 66 #[.agg #[.int .i64 t.kind, .string t.name, .string t.other, .int .i64 t.n, .int .i64 t.type.kind, .slice l.ta l.tn l.tc, .int .i64 t.res.kind, .slice l.ra l.rn l.rc, .slice l.aa l.an l.ac], .int .i64 m] w fun e w' => e = .returned (.int .i64 (nextLv t.kind m)) ∧ Below w.heap.size w w' := by
  by_cases ha : t.kind = 10
  · have g := beq_iff_eq.2 ha
    go_enter Try.func66, Try.ntmps66
    go_wp2_with fail
    all_goals go_ret
    all_goals exact ⟨ret_int (by simp [nextLv, ha]), below_new _ _⟩
  · have g := beq_eq_false_iff_ne.2 ha
    by_cases hb : t.kind = 11
    · have g' := beq_iff_eq.2 hb
      go_enter Try.func66, Try.ntmps66
      go_wp2_with fail
      all_goals go_ret
      all_goals exact ⟨ret_int (by simp [nextLv, hb]), below_new _ _⟩
    · have g' := beq_eq_false_iff_ne.2 hb
      go_enter Try.func66, Try.ntmps66
      go_wp2_with fail
      all_goals go_ret
      all_goals exact ⟨ret_int (by simp [nextLv, ha, hb]), below_new _ _⟩

set_option maxHeartbeats 3200000 in
theorem l8Ok_any (t : Tm) : ∀ (l : Lt) (m : Int) (w : World), Md w t l →
    Calls Try.prog 55 #[.agg #[.int .i64 t.kind, .string t.name, .string t.other, .int .i64 t.n, .int .i64 t.type.kind, .slice l.ta l.tn l.tc, .int .i64 t.res.kind, .slice l.ra l.rn l.rc, .slice l.aa l.an l.ac], .int .i64 m] w fun e w' => e = .returned (.bool (lvOk t m)) ∧ Below w.heap.size w w' := by
  induction t using Tm.ind' with | h t ih => ?_
  intro l m w h
  have IH := hide ih
  clear ih
  obtain ⟨-, -, -, hr⟩ := h.shape
  clear h
  have hn : l.an ≤ 9223372036854775807 := by obtain ⟨_, h2, h3, _⟩ := hr; unfold maxLen at h3; omega
  have hall := lvOk_eq t m
  cases hin : inB m 0 2 with
  | false =>
    rw [hin, Bool.false_and] at hall
    replace hall := hide hall
    go_enter Try.func55, Try.ntmps55
    go_wp2_with (go_at_call 62; (with_reducible refine (l1In_is hin _).mono ?_); rintro e w1 ⟨rfl, rfl⟩)
    go_ret
    exact ⟨ret_bool hall.out.symm, below_new _ _⟩
  | true =>
    rw [hin, Bool.true_and] at hall
    replace hall := hide hall
    obtain ⟨m0, m2⟩ := inB_iff.1 hin
    have C1 := hide (fun W => l1In_is hin W)
    clear hin
    go_enter Try.func55, Try.ntmps55
    go_wp2_with (go_at_call 62; (with_reducible refine (C1.out _).mono ?_); rintro e w1 ⟨rfl, rfl⟩)
    go_loopw [5] (fun i wr => ∃ j : Nat, j ≤ l.an ∧ i = .int .i64 j ∧ Hid (∀ i (h : i < t.args.length), i < j → lvOk t.args[i] (nextLv t.kind m) = true) ∧ Blk wr w.heap.size 42 #[.int .i64 t.kind, .string t.name, .string t.other, .int .i64 t.n, .int .i64 t.type.kind, .slice l.ta l.tn l.tc, .int .i64 t.res.kind, .slice l.ra l.rn l.rc, .slice l.aa l.an l.ac] ∧ Below w.heap.size w wr) (fun i _ => l.an - (intOf i).toNat)
    case atStart => exact ⟨0, by omega, rfl, fun i _ hi => by omega, Blk.new _ _ _, below_new _ _⟩
    case round =>
      obtain ⟨j, hj, rfl, HR, hB, hb⟩ := hrel
      have hsz := hb.size
      by_cases hjn : j < l.an
      · have hjx : j < t.args.length := by rw [← hr.1]; exact hjn
        obtain ⟨b, off, l', ha, hlt, hc, hd⟩ := (hr.below hb).get j hjx
        obtain ⟨e0, e1, e2, e3, e4, e5, e6, e7, e8⟩ := hc.nine
        obtain ⟨v0, v1, v2, v3, v4, v5, v6, v7, v8⟩ := hB.nine_at ha
        have i0 : (0 : Int) ≤ (j : Int) := by omega
        have i1 : (j : Int) < (l.an : Int) := by omega
        have hltd : b < wr.drew.heap.size := hlt
        have hcd : CellsAt wr.drew b (off + j * 9) (tcells t.args[j] l') := hc
        have hdd : Md wr.drew t.args[j] l' := hd.below (below_drew wr)
        have hbd : Below w.heap.size w wr.drew := hb.drew
        have CN := fun W => l8Next_any t l m W m0 m2
        rw [ha] at CN
        replace CN := hide CN
        have HA := hide ha
        replace hc := hide hc
        replace hcd := hide hcd
        clear ha
        cases hq : lvOk t.args[j] (nextLv t.kind m) with
        | true =>
          have C := hide (fun W hW => IH.out _ (List.getElem_mem hjx) l' (nextLv t.kind m) W hW)
          rw [hq] at C
          replace hq := hide hq
          go_wp2_with fail
          go_region_held3 (fun W => (W.cell? ⟨w.heap.size, 0, none⟩ = some (.int .i64 t.kind) ∧ W.cell? ⟨w.heap.size, 1, none⟩ = some (.string t.name) ∧ W.cell? ⟨w.heap.size, 2, none⟩ = some (.string t.other) ∧ W.cell? ⟨w.heap.size, 3, none⟩ = some (.int .i64 t.n) ∧ W.cell? ⟨w.heap.size, 4, none⟩ = some (.int .i64 t.type.kind) ∧ W.cell? ⟨w.heap.size, 5, none⟩ = some (.slice l.ta l.tn l.tc) ∧ W.cell? ⟨w.heap.size, 6, none⟩ = some (.int .i64 t.res.kind) ∧ W.cell? ⟨w.heap.size, 7, none⟩ = some (.slice l.ra l.rn l.rc) ∧ W.cell? ⟨w.heap.size, 8, none⟩ = some (.slice (some ⟨b, off, none⟩) l.an l.ac)) ∧ (W.cell? ⟨b, off + j * 9, none⟩ = some (.int .i64 t.args[j].kind) ∧ W.cell? ⟨b, off + j * 9 + 1, none⟩ = some (.string t.args[j].name) ∧ W.cell? ⟨b, off + j * 9 + 2, none⟩ = some (.string t.args[j].other) ∧ W.cell? ⟨b, off + j * 9 + 3, none⟩ = some (.int .i64 t.args[j].n) ∧ W.cell? ⟨b, off + j * 9 + 4, none⟩ = some (.int .i64 t.args[j].type.kind) ∧ W.cell? ⟨b, off + j * 9 + 5, none⟩ = some (.slice l'.ta l'.tn l'.tc) ∧ W.cell? ⟨b, off + j * 9 + 6, none⟩ = some (.int .i64 t.args[j].res.kind) ∧ W.cell? ⟨b, off + j * 9 + 7, none⟩ = some (.slice l'.ra l'.rn l'.rc) ∧ W.cell? ⟨b, off + j * 9 + 8, none⟩ = some (.slice l'.aa l'.an l'.ac)))
            (first | exact ⟨⟨v0, v1, v2, v3, v4, v5, v6, v7, v8⟩, e0, e1, e2, e3, e4, e5, e6, e7, e8⟩ | exact ⟨B1.nine_at HA.out, c1.out.nine⟩ | exact ⟨B2.nine_at HA.out, c2.out.nine⟩)
            (first
              | (go_at_call 63; (with_reducible refine (CN.out _).mono ?_); rintro e w1 ⟨rfl, b1⟩
                 have B1 : Blk w1 _ _ _ := Blk.under (w := wr.drew) hB b1
                 have c1 := hide (hcd.out.below hltd b1)
                 have l1 := Nat.lt_of_lt_of_le hltd b1.size
                 have d1 := hdd.below b1
                 have k1 := hbd.trans (b1.mono hbd.size))
              | (go_at_call 55; (with_reducible refine (C.out _ d1).mono ?_); rintro e w2 ⟨rfl, b2⟩
                 have B2 := B1.under b2
                 have c2 := hide (c1.out.below l1 b2)
                 have k2 := k1.trans (b2.mono k1.size)))
          go_wp2_with fail
          go_roundw
          case rel =>
            refine ⟨j + 1, by omega, by go_num, fun i hi hij => ?_, (by first | exact B2 | (have := B2; rw [HA.out] at this; exact this)), k2⟩
            by_cases hij' : i < j
            · exact HR.out i hi hij'
            · obtain rfl : i = j := by omega
              exact hq.out
          case measure => simp [intOf]; omega
        | false =>
          have C := hide (fun W hW => IH.out _ (List.getElem_mem hjx) l' (nextLv t.kind m) W hW)
          rw [hq] at C
          replace hq := hide hq
          go_wp2_with fail
          go_region_held3 (fun W => (W.cell? ⟨w.heap.size, 0, none⟩ = some (.int .i64 t.kind) ∧ W.cell? ⟨w.heap.size, 1, none⟩ = some (.string t.name) ∧ W.cell? ⟨w.heap.size, 2, none⟩ = some (.string t.other) ∧ W.cell? ⟨w.heap.size, 3, none⟩ = some (.int .i64 t.n) ∧ W.cell? ⟨w.heap.size, 4, none⟩ = some (.int .i64 t.type.kind) ∧ W.cell? ⟨w.heap.size, 5, none⟩ = some (.slice l.ta l.tn l.tc) ∧ W.cell? ⟨w.heap.size, 6, none⟩ = some (.int .i64 t.res.kind) ∧ W.cell? ⟨w.heap.size, 7, none⟩ = some (.slice l.ra l.rn l.rc) ∧ W.cell? ⟨w.heap.size, 8, none⟩ = some (.slice (some ⟨b, off, none⟩) l.an l.ac)) ∧ (W.cell? ⟨b, off + j * 9, none⟩ = some (.int .i64 t.args[j].kind) ∧ W.cell? ⟨b, off + j * 9 + 1, none⟩ = some (.string t.args[j].name) ∧ W.cell? ⟨b, off + j * 9 + 2, none⟩ = some (.string t.args[j].other) ∧ W.cell? ⟨b, off + j * 9 + 3, none⟩ = some (.int .i64 t.args[j].n) ∧ W.cell? ⟨b, off + j * 9 + 4, none⟩ = some (.int .i64 t.args[j].type.kind) ∧ W.cell? ⟨b, off + j * 9 + 5, none⟩ = some (.slice l'.ta l'.tn l'.tc) ∧ W.cell? ⟨b, off + j * 9 + 6, none⟩ = some (.int .i64 t.args[j].res.kind) ∧ W.cell? ⟨b, off + j * 9 + 7, none⟩ = some (.slice l'.ra l'.rn l'.rc) ∧ W.cell? ⟨b, off + j * 9 + 8, none⟩ = some (.slice l'.aa l'.an l'.ac)))
            (first | exact ⟨⟨v0, v1, v2, v3, v4, v5, v6, v7, v8⟩, e0, e1, e2, e3, e4, e5, e6, e7, e8⟩ | exact ⟨B1.nine_at HA.out, c1.out.nine⟩ | exact ⟨B2.nine_at HA.out, c2.out.nine⟩)
            (first
              | (go_at_call 63; (with_reducible refine (CN.out _).mono ?_); rintro e w1 ⟨rfl, b1⟩
                 have B1 : Blk w1 _ _ _ := Blk.under (w := wr.drew) hB b1
                 have c1 := hide (hcd.out.below hltd b1)
                 have l1 := Nat.lt_of_lt_of_le hltd b1.size
                 have d1 := hdd.below b1
                 have k1 := hbd.trans (b1.mono hbd.size))
              | (go_at_call 55; (with_reducible refine (C.out _ d1).mono ?_); rintro e w2 ⟨rfl, b2⟩
                 have B2 := B1.under b2
                 have c2 := hide (c1.out.below l1 b2)
                 have k2 := k1.trans (b2.mono k1.size)))
          go_wp2_with fail
          go_ret
          exact ⟨ret_bool (by rw [hall.out, all_no hjx hq.out]), k2⟩
      · have h4 : l.an = t.args.length := hr.1
        obtain ⟨v0, v1, v2, v3, v4, v5, v6, v7, v8⟩ := hB.nine
        have hfin := hide (show lvOk t m = true by rw [hall.out]; exact all_yes fun i hi => HR.out i hi (by omega))
        clear h4
        go_wp2_with fail
        go_ret
        exact ⟨ret_bool hfin.out.symm, hb⟩
end Go.Proofs.Ytknlbhclfeldbaa
