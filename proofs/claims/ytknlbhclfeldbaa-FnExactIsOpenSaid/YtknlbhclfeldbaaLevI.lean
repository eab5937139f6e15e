/-
  The walks of the program's levels at two of its tests, and of LevelsOk and IsGenerated in both texts.
-/
import Derived.Test.YtknlbhclfeldbaaLevM
namespace Go.Proofs.Ytknlbhclfeldbaa
open Go.RowKit
set_option linter.unusedVariables false
set_option linter.unusedSimpArgs false

theorem lit_levelsOk (t : Tm) (l : Lt) (m : Int) (w : World) : Calls Try.prog 58 #[.agg #[.int .i64 t.kind, .string t.name, .string t.other, .int .i64 t.n, .int .i64 t.type.kind, .slice l.ta l.tn l.tc, .int .i64 t.res.kind, .slice l.ra l.rn l.rc, .slice l.aa l.an l.ac], .int .i64 m] w fun e w' => e = .returned (.bool (inB m 0 2)) ∧ Below w.heap.size w w' := by
  go_enter Try.func58, Try.ntmps58
  go_wp2_with (go_at_call 59; (with_reducible refine (within_any _ _ _ _).mono ?_); rintro e w1 ⟨rfl, rfl⟩)
  go_ret
  first | exact ⟨rfl, below_new _ _⟩ | exact ⟨rfl, Below.refl _ _⟩
set_option maxHeartbeats 3200000 in
theorem levelsOk_any (t : Tm) : ∀ (l : Lt) (m : Int) (w : World), Md w t l → True →
    Calls Try.prog 57 #[.agg #[.int .i64 t.kind, .string t.name, .string t.other, .int .i64 t.n, .int .i64 t.type.kind, .slice l.ta l.tn l.tc, .int .i64 t.res.kind, .slice l.ra l.rn l.rc, .slice l.aa l.an l.ac], .int .i64 m, .func (.func 58) #[] #[]] w fun e w' => e = .returned (.bool (t.lv (fun _ k => inB k 0 2) m)) ∧ Below w.heap.size w w' := by
  induction t using Tm.ind' with | h t ih => ?_
  intro l m w h hH
  have IH := hide ih
  clear ih
  obtain ⟨-, -, -, hr⟩ := h.shape
  clear h
  have hn : l.an ≤ 9223372036854775807 := by obtain ⟨_, h2, h3, _⟩ := hr; unfold maxLen at h3; omega
  have hall := Tm.lv_eq (fun _ k => inB k 0 2) t m
  have CL := fun W => lit_levelsOk t l m W
  cases hp : inB m 0 2 with
  | false =>
    rw [hp] at CL
    simp only [hp, Bool.false_and] at hall
    replace hall := hide hall
    replace CL := hide CL
    clear hp
    go_enter Try.func57, Try.ntmps57
    go_wp2_with (go_at_call 58; (with_reducible refine (CL.out _).mono ?_); rintro e w1 ⟨rfl, b1⟩)
    go_ret
    exact ⟨ret_bool hall.out.symm, below_of_alloc b1⟩
  | true =>
    obtain ⟨m0, m2⟩ := inB_iff.1 hp
    rw [hp] at CL
    simp only [hp, Bool.true_and] at hall
    replace hall := hide hall
    replace CL := hide CL
    clear hp
    replace hH := hide hH
    go_enter Try.func57, Try.ntmps57
    go_wp2_with (go_at_call 58; (with_reducible refine (CL.out _).mono ?_); rintro e w1 ⟨rfl, b1⟩; have B1 := (Blk.new w _ _).under b1; obtain ⟨y0, y1, y2, y3, y4, y5, y6, y7, y8⟩ := B1.nine)
    go_loopw [17] (fun i wr => ∃ j : Nat, j ≤ l.an ∧ i = .int .i64 j ∧ Hid (∀ i (h : i < t.args.length), i < j → t.args[i].lv (fun _ k => inB k 0 2) (nextLv t.kind m) = true) ∧ Blk wr w.heap.size 42 #[.int .i64 t.kind, .string t.name, .string t.other, .int .i64 t.n, .int .i64 t.type.kind, .slice l.ta l.tn l.tc, .int .i64 t.res.kind, .slice l.ra l.rn l.rc, .slice l.aa l.an l.ac] ∧ Below w.heap.size w wr) (fun i _ => l.an - (intOf i).toNat)
    case atStart => exact ⟨0, by omega, rfl, fun i _ hi => by omega, B1, below_of_alloc b1⟩
    case round =>
      clear y0 y1 y2 y3 y4 y5 y6 y7 y8
      obtain ⟨j, hj, rfl, HR, hB, hb⟩ := hrel
      have hsz := hb.size
      by_cases hjn : j < l.an
      · have hjx : j < t.args.length := by rw [← hr.1]; exact hjn
        obtain ⟨b, off, l', ha, hlt, hc, hd⟩ := (hr.below hb).get j hjx
        obtain ⟨e0, e1, e2, e3, e4, e5, e6, e7, e8⟩ := hc.nine
        have X0 := Blk.new wr 42 #[.int .i64 t.args[j].kind, .string t.args[j].name, .string t.args[j].other, .int .i64 t.args[j].n, .int .i64 t.args[j].type.kind, .slice l'.ta l'.tn l'.tc, .int .i64 t.args[j].res.kind, .slice l'.ra l'.rn l'.rc, .slice l'.aa l'.an l'.ac]
        have O0 := hB.alloc (.cells #[.int .i64 t.args[j].kind, .string t.args[j].name, .string t.args[j].other, .int .i64 t.args[j].n, .int .i64 t.args[j].type.kind, .slice l'.ta l'.tn l'.tc, .int .i64 t.args[j].res.kind, .slice l'.ra l'.rn l'.rc, .slice l'.aa l'.an l'.ac] 42)
        obtain ⟨v0, v1, v2, v3, v4, v5, v6, v7, v8⟩ := O0.nine_at ha
        obtain ⟨x0, x1, x2, x3, x4, x5, x6, x7, x8⟩ := X0.nine
        have i0 : (0 : Int) ≤ (j : Int) := by omega
        have i1 : (j : Int) < (l.an : Int) := by omega
        have hdd : Md (wr.alloc (.cells #[.int .i64 t.args[j].kind, .string t.args[j].name, .string t.args[j].other, .int .i64 t.args[j].n, .int .i64 t.args[j].type.kind, .slice l'.ta l'.tn l'.tc, .int .i64 t.args[j].res.kind, .slice l'.ra l'.rn l'.rc, .slice l'.aa l'.an l'.ac] 42)).drew t.args[j] l' := (hd.below (below_new _ _)).below (below_drew _)
        have hbd : Below w.heap.size w (wr.alloc (.cells #[.int .i64 t.args[j].kind, .string t.args[j].name, .string t.args[j].other, .int .i64 t.args[j].n, .int .i64 t.args[j].type.kind, .slice l'.ta l'.tn l'.tc, .int .i64 t.args[j].res.kind, .slice l'.ra l'.rn l'.rc, .slice l'.aa l'.an l'.ac] 42)).drew := (hb.alloc hsz _).drew
        have CN := fun W => partLevel_any t l m W m0 m2
        rw [ha] at CN
        rw [ha]
        replace CN := hide CN
        have HA := hide ha
        clear ha hc
        cases hq : t.args[j].lv (fun _ k => inB k 0 2) (nextLv t.kind m) with
        | true =>
          have C := hide (fun W hW => IH.out _ (List.getElem_mem hjx) l' (nextLv t.kind m) W hW (by have hH := hH.out; exact trivial))
          rw [hq] at C
          replace hq := hide hq
          go_wp2_with fail
          go_region_held3 (fun W => (W.cell? ⟨w.heap.size, 0, none⟩ = some (.int .i64 t.kind) ∧ W.cell? ⟨w.heap.size, 1, none⟩ = some (.string t.name) ∧ W.cell? ⟨w.heap.size, 2, none⟩ = some (.string t.other) ∧ W.cell? ⟨w.heap.size, 3, none⟩ = some (.int .i64 t.n) ∧ W.cell? ⟨w.heap.size, 4, none⟩ = some (.int .i64 t.type.kind) ∧ W.cell? ⟨w.heap.size, 5, none⟩ = some (.slice l.ta l.tn l.tc) ∧ W.cell? ⟨w.heap.size, 6, none⟩ = some (.int .i64 t.res.kind) ∧ W.cell? ⟨w.heap.size, 7, none⟩ = some (.slice l.ra l.rn l.rc) ∧ W.cell? ⟨w.heap.size, 8, none⟩ = some (.slice (some ⟨b, off, none⟩) l.an l.ac)) ∧ (W.cell? ⟨wr.heap.size, 0, none⟩ = some (.int .i64 t.args[j].kind) ∧ W.cell? ⟨wr.heap.size, 1, none⟩ = some (.string t.args[j].name) ∧ W.cell? ⟨wr.heap.size, 2, none⟩ = some (.string t.args[j].other) ∧ W.cell? ⟨wr.heap.size, 3, none⟩ = some (.int .i64 t.args[j].n) ∧ W.cell? ⟨wr.heap.size, 4, none⟩ = some (.int .i64 t.args[j].type.kind) ∧ W.cell? ⟨wr.heap.size, 5, none⟩ = some (.slice l'.ta l'.tn l'.tc) ∧ W.cell? ⟨wr.heap.size, 6, none⟩ = some (.int .i64 t.args[j].res.kind) ∧ W.cell? ⟨wr.heap.size, 7, none⟩ = some (.slice l'.ra l'.rn l'.rc) ∧ W.cell? ⟨wr.heap.size, 8, none⟩ = some (.slice l'.aa l'.an l'.ac)))
            (first | exact ⟨⟨v0, v1, v2, v3, v4, v5, v6, v7, v8⟩, x0, x1, x2, x3, x4, x5, x6, x7, x8⟩ | exact ⟨O1.nine_at HA.out, X1.nine⟩ | exact ⟨O2.nine_at HA.out, X2.nine⟩)
            (first
              | (go_at_call 66; (with_reducible refine (CN.out _).mono ?_); rintro e w2 ⟨rfl, b2⟩
                 have O1 : Blk w2 _ _ _ := Blk.under (w := (wr.alloc (.cells #[.int .i64 t.args[j].kind, .string t.args[j].name, .string t.args[j].other, .int .i64 t.args[j].n, .int .i64 t.args[j].type.kind, .slice l'.ta l'.tn l'.tc, .int .i64 t.args[j].res.kind, .slice l'.ra l'.rn l'.rc, .slice l'.aa l'.an l'.ac] 42)).drew) O0 b2
                 have X1 : Blk w2 _ _ _ := Blk.under (w := (wr.alloc (.cells #[.int .i64 t.args[j].kind, .string t.args[j].name, .string t.args[j].other, .int .i64 t.args[j].n, .int .i64 t.args[j].type.kind, .slice l'.ta l'.tn l'.tc, .int .i64 t.args[j].res.kind, .slice l'.ra l'.rn l'.rc, .slice l'.aa l'.an l'.ac] 42)).drew) X0 b2
                 have d1 := hdd.below b2
                 have k1 := hbd.trans (b2.mono hbd.size))
              | (go_at_call 57; (with_reducible refine (C.out _ d1).mono ?_); rintro e w3 ⟨rfl, b3⟩
                 have O2 := O1.under b3
                 have X2 := X1.under b3
                 have k2 := k1.trans (b3.mono k1.size)))
          go_wp2_with fail
          go_roundw
          case rel =>
            refine ⟨j + 1, by omega, by go_num, fun i hi hij => ?_, (by first | exact O2 | (have := O2; rw [HA.out] at this; exact this)), k2⟩
            by_cases hij' : i < j
            · exact HR.out i hi hij'
            · obtain rfl : i = j := by omega
              exact hq.out
          case measure => simp [intOf]; omega
        | false =>
          have C := hide (fun W hW => IH.out _ (List.getElem_mem hjx) l' (nextLv t.kind m) W hW (by have hH := hH.out; exact trivial))
          rw [hq] at C
          replace hq := hide hq
          go_wp2_with fail
          go_region_held3 (fun W => (W.cell? ⟨w.heap.size, 0, none⟩ = some (.int .i64 t.kind) ∧ W.cell? ⟨w.heap.size, 1, none⟩ = some (.string t.name) ∧ W.cell? ⟨w.heap.size, 2, none⟩ = some (.string t.other) ∧ W.cell? ⟨w.heap.size, 3, none⟩ = some (.int .i64 t.n) ∧ W.cell? ⟨w.heap.size, 4, none⟩ = some (.int .i64 t.type.kind) ∧ W.cell? ⟨w.heap.size, 5, none⟩ = some (.slice l.ta l.tn l.tc) ∧ W.cell? ⟨w.heap.size, 6, none⟩ = some (.int .i64 t.res.kind) ∧ W.cell? ⟨w.heap.size, 7, none⟩ = some (.slice l.ra l.rn l.rc) ∧ W.cell? ⟨w.heap.size, 8, none⟩ = some (.slice (some ⟨b, off, none⟩) l.an l.ac)) ∧ (W.cell? ⟨wr.heap.size, 0, none⟩ = some (.int .i64 t.args[j].kind) ∧ W.cell? ⟨wr.heap.size, 1, none⟩ = some (.string t.args[j].name) ∧ W.cell? ⟨wr.heap.size, 2, none⟩ = some (.string t.args[j].other) ∧ W.cell? ⟨wr.heap.size, 3, none⟩ = some (.int .i64 t.args[j].n) ∧ W.cell? ⟨wr.heap.size, 4, none⟩ = some (.int .i64 t.args[j].type.kind) ∧ W.cell? ⟨wr.heap.size, 5, none⟩ = some (.slice l'.ta l'.tn l'.tc) ∧ W.cell? ⟨wr.heap.size, 6, none⟩ = some (.int .i64 t.args[j].res.kind) ∧ W.cell? ⟨wr.heap.size, 7, none⟩ = some (.slice l'.ra l'.rn l'.rc) ∧ W.cell? ⟨wr.heap.size, 8, none⟩ = some (.slice l'.aa l'.an l'.ac)))
            (first | exact ⟨⟨v0, v1, v2, v3, v4, v5, v6, v7, v8⟩, x0, x1, x2, x3, x4, x5, x6, x7, x8⟩ | exact ⟨O1.nine_at HA.out, X1.nine⟩ | exact ⟨O2.nine_at HA.out, X2.nine⟩)
            (first
              | (go_at_call 66; (with_reducible refine (CN.out _).mono ?_); rintro e w2 ⟨rfl, b2⟩
                 have O1 : Blk w2 _ _ _ := Blk.under (w := (wr.alloc (.cells #[.int .i64 t.args[j].kind, .string t.args[j].name, .string t.args[j].other, .int .i64 t.args[j].n, .int .i64 t.args[j].type.kind, .slice l'.ta l'.tn l'.tc, .int .i64 t.args[j].res.kind, .slice l'.ra l'.rn l'.rc, .slice l'.aa l'.an l'.ac] 42)).drew) O0 b2
                 have X1 : Blk w2 _ _ _ := Blk.under (w := (wr.alloc (.cells #[.int .i64 t.args[j].kind, .string t.args[j].name, .string t.args[j].other, .int .i64 t.args[j].n, .int .i64 t.args[j].type.kind, .slice l'.ta l'.tn l'.tc, .int .i64 t.args[j].res.kind, .slice l'.ra l'.rn l'.rc, .slice l'.aa l'.an l'.ac] 42)).drew) X0 b2
                 have d1 := hdd.below b2
                 have k1 := hbd.trans (b2.mono hbd.size))
              | (go_at_call 57; (with_reducible refine (C.out _ d1).mono ?_); rintro e w3 ⟨rfl, b3⟩
                 have O2 := O1.under b3
                 have X2 := X1.under b3
                 have k2 := k1.trans (b3.mono k1.size)))
          go_wp2_with fail
          go_ret
          exact ⟨ret_bool (by rw [hall.out, all_no hjx hq.out]), k2⟩
      · have h4 : l.an = t.args.length := hr.1
        have hfin := hide (show t.lv (fun _ k => inB k 0 2) m = true by rw [hall.out]; exact all_yes fun i hi => HR.out i hi (by omega))
        clear h4
        go_wp2_with fail
        go_ret
        exact ⟨ret_bool hfin.out.symm, hb⟩
end Go.Proofs.Ytknlbhclfeldbaa
