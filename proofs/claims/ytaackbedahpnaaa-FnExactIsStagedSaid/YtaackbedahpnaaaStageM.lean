/-
  The walks of CountSplices, CountStages, IsStaged, IsQuiet in both texts.
-/
import Derived.Test.YtaackbedahpnaaaCountM
namespace Go.Proofs.Ytaackbedahpnaaa
open Go.RowKit
set_option linter.unusedVariables false
set_option linter.unusedSimpArgs false

theorem implCountSplices_any (t : Tm) (l : Lt) (w : World) (h : Md w t l) (hz : Tm.sizes t.args ≤ 1048576) :
    Calls Try.prog 25 #[.agg #[.int .i64 t.kind, .string t.name, .string t.other, .int .i64 t.n, .int .i64 t.type.kind, .slice l.ta l.tn l.tc, .int .i64 t.res.kind, .slice l.ra l.rn l.rc, .slice l.aa l.an l.ac]] w fun e w' => e = .returned (.int .i64 (t.count Tm.isSplice : Int)) ∧ Below w.heap.size w w' := by
  have C := hide (implcount_isSplice t l _ (h.below (below_new w (.cells #[.int .i64 t.kind, .string t.name, .string t.other, .int .i64 t.n, .int .i64 t.type.kind, .slice l.ta l.tn l.tc, .int .i64 t.res.kind, .slice l.ra l.rn l.rc, .slice l.aa l.an l.ac] 35))) hz)
  go_enter Try.func25, Try.ntmps25
  go_wp2_with (go_at_call 44; (with_reducible refine C.out.mono ?_); rintro e w1 ⟨rfl, b1⟩)
  go_ret
  exact ⟨rfl, below_of_alloc b1⟩
theorem implCountStages_any (t : Tm) (l : Lt) (w : World) (h : Md w t l) (hz : Tm.sizes t.args ≤ 1048576) :
    Calls Try.prog 27 #[.agg #[.int .i64 t.kind, .string t.name, .string t.other, .int .i64 t.n, .int .i64 t.type.kind, .slice l.ta l.tn l.tc, .int .i64 t.res.kind, .slice l.ra l.rn l.rc, .slice l.aa l.an l.ac]] w fun e w' => e = .returned (.int .i64 (t.count Tm.isStage : Int)) ∧ Below w.heap.size w w' := by
  have C := hide (implcount_isStage t l _ (h.below (below_new w (.cells #[.int .i64 t.kind, .string t.name, .string t.other, .int .i64 t.n, .int .i64 t.type.kind, .slice l.ta l.tn l.tc, .int .i64 t.res.kind, .slice l.ra l.rn l.rc, .slice l.aa l.an l.ac] 35))) hz)
  go_enter Try.func27, Try.ntmps27
  go_wp2_with (go_at_call 44; (with_reducible refine C.out.mono ?_); rintro e w1 ⟨rfl, b1⟩)
  go_ret
  exact ⟨rfl, below_of_alloc b1⟩
theorem implIsQuiet_any (t : Tm) (l : Lt) (w : World) (h : Md w t l) (hz : Tm.sizes t.args ≤ 1048576) :
    Calls Try.prog 23 #[.agg #[.int .i64 t.kind, .string t.name, .string t.other, .int .i64 t.n, .int .i64 t.type.kind, .slice l.ta l.tn l.tc, .int .i64 t.res.kind, .slice l.ra l.rn l.rc, .slice l.aa l.an l.ac]] w fun e w' => e = .returned (.bool (t.all fun x => !x.isApp)) ∧ Below w.heap.size w w' := by
  have C := hide (implcount_isApp t l _ (h.below (below_new w (.cells #[.int .i64 t.kind, .string t.name, .string t.other, .int .i64 t.n, .int .i64 t.type.kind, .slice l.ta l.tn l.tc, .int .i64 t.res.kind, .slice l.ra l.rn l.rc, .slice l.aa l.an l.ac] 35))) hz)
  have hc := hide (t.count_zero Tm.isApp)
  go_enter Try.func23, Try.ntmps23
  go_wp2_with (go_at_call 44; (with_reducible refine C.out.mono ?_); rintro e w1 ⟨rfl, b1⟩)
  go_ret
  refine ⟨ret_bool ?_, below_of_alloc b1⟩
  rw [Bool.eq_iff_iff, ← hc.out]
  simp
theorem specIsStaged_any (t : Tm) (l : Lt) (w : World) (h : Md w t l) (hz : Tm.sizes t.args ≤ 1048576) :
    Calls Try.prog 28 #[.agg #[.int .i64 t.kind, .string t.name, .string t.other, .int .i64 t.n, .int .i64 t.type.kind, .slice l.ta l.tn l.tc, .int .i64 t.res.kind, .slice l.ra l.rn l.rc, .slice l.aa l.an l.ac]] w fun e w' => e = .returned (.bool (decide (0 < t.count Tm.isStage))) ∧ Below w.heap.size w w' := by
  have C := hide (specCountStages_any t l _ (h.below (below_new w (.cells #[.int .i64 t.kind, .string t.name, .string t.other, .int .i64 t.n, .int .i64 t.type.kind, .slice l.ta l.tn l.tc, .int .i64 t.res.kind, .slice l.ra l.rn l.rc, .slice l.aa l.an l.ac] 35))) hz)
  go_enter Try.func28, Try.ntmps28
  go_wp2_with (go_at_call 26; (with_reducible refine C.out.mono ?_); rintro e w1 ⟨rfl, b1⟩)
  go_ret
  exact ⟨rfl, below_of_alloc b1⟩
theorem implIsStaged_any (t : Tm) (l : Lt) (w : World) (h : Md w t l) (hz : Tm.sizes t.args ≤ 1048576) :
    Calls Try.prog 29 #[.agg #[.int .i64 t.kind, .string t.name, .string t.other, .int .i64 t.n, .int .i64 t.type.kind, .slice l.ta l.tn l.tc, .int .i64 t.res.kind, .slice l.ra l.rn l.rc, .slice l.aa l.an l.ac]] w fun e w' => e = .returned (.bool (decide (0 < t.count Tm.isStage))) ∧ Below w.heap.size w w' := by
  have C := hide (implCountStages_any t l _ (h.below (below_new w (.cells #[.int .i64 t.kind, .string t.name, .string t.other, .int .i64 t.n, .int .i64 t.type.kind, .slice l.ta l.tn l.tc, .int .i64 t.res.kind, .slice l.ra l.rn l.rc, .slice l.aa l.an l.ac] 35))) hz)
  go_enter Try.func29, Try.ntmps29
  go_wp2_with (go_at_call 27; (with_reducible refine C.out.mono ?_); rintro e w1 ⟨rfl, b1⟩)
  go_ret
  exact ⟨rfl, below_of_alloc b1⟩

set_option maxHeartbeats 1600000 in
theorem specIsQuiet_any (t : Tm) : ∀ (l : Lt) (w : World), Md w t l → Tm.sizes t.args ≤ 1048576 →
    Calls Try.prog 22 #[.agg #[.int .i64 t.kind, .string t.name, .string t.other, .int .i64 t.n, .int .i64 t.type.kind, .slice l.ta l.tn l.tc, .int .i64 t.res.kind, .slice l.ra l.rn l.rc, .slice l.aa l.an l.ac]] w fun e w' => e = .returned (.bool (t.all fun x => !x.isApp)) ∧ Below w.heap.size w w' := by
  induction t using Tm.ind' with | h t ih => ?_
  intro l w h hl
  have IH := hide ih
  clear ih
  obtain ⟨h0, ht, hrr, hr⟩ := h.shape
  clear ht hrr h
  have hn : l.an ≤ 1048576 := by
    have := Tm.length_le_sizes t.args
    have h1 : l.an = t.args.length := hr.1
    omega
  have hall := hide (Tm.all_eq (fun x => !x.isApp) t)
  go_enter Try.func22, Try.ntmps22
  go_wp2_with fail
  go_loopw [3] (fun i wr => ∃ j : Nat, j ≤ l.an ∧ i = .int .i64 j ∧ Hid (∀ i (h : i < t.args.length), i < j → t.args[i].all (fun x => !x.isApp) = true) ∧ Blk wr w.heap.size 35 #[.int .i64 t.kind, .string t.name, .string t.other, .int .i64 t.n, .int .i64 t.type.kind, .slice l.ta l.tn l.tc, .int .i64 t.res.kind, .slice l.ra l.rn l.rc, .slice l.aa l.an l.ac] ∧ Below w.heap.size w wr) (fun i _ => l.an - (intOf i).toNat)
  case atStart => exact ⟨0, by omega, rfl, fun i _ hi => by omega, Blk.new _ _ _, below_new _ _⟩
  case round =>
    obtain ⟨j, hj, rfl, HR, hB, hb⟩ := hrel
    have hsz := hb.size
    obtain ⟨v0, v1, v2, v3, v4, v5, v6, v7, hcell8⟩ := hB.nine
    by_cases hjn : j < l.an
    · have hjx : j < t.args.length := by rw [← hr.1]; exact hjn
      obtain ⟨b, off, l', ha, hlt, hc, hd⟩ := (hr.below hb).get j hjx
      obtain ⟨e0, e1, e2, e3, e4, e5, e6, e7, e8⟩ := hc.nine
      clear hc
      rw [ha] at hcell8 ⊢
      have hz1 : Tm.sizes t.args[j].args ≤ 1048576 := by
        have h1 := Tm.sizes_take t.args j hjx
        have h2 := Tm.sizes_take_le t.args (j + 1)
        omega
      cases hq : t.args[j].all (fun x => !x.isApp) with
      | true =>
        have C := hide (fun W hW => IH.out _ (List.getElem_mem hjx) l' W hW hz1)
        rw [hq] at C
        replace hq := hide hq
        go_wp2_with (go_at_call 22; (with_reducible refine (C.out _ hd).mono ?_); rintro e w' ⟨rfl, hb'⟩)
        go_roundw
        case rel =>
          refine ⟨j + 1, by omega, by go_num, fun i hi hij => ?_, (by have hB2 := hB.under hb'; rw [ha] at hB2; exact hB2), hb.trans (by repeat (first | exact Below.refl _ _ | refine Below.drew ?_ | refine below_drewN ?_ _ | refine Below.alloc ?_ (by first | omega | (simp; done) | (simp; omega)) _ | refine Below.setCell ?_ (by first | omega | (simp; done) | (simp; omega)) _ | refine Below.trans ?_ (Below.mono hb' (by first | omega | (simp; done) | (simp; omega)))))⟩
          by_cases hij' : i < j
          · exact HR.out i hi hij'
          · obtain rfl : i = j := by omega
            exact hq.out
        case measure => simp [intOf]; omega
      | false =>
        have C := hide (fun W hW => IH.out _ (List.getElem_mem hjx) l' W hW hz1)
        rw [hq] at C
        replace hq := hide hq
        go_wp2_with (go_at_call 22; (with_reducible refine (C.out _ hd).mono ?_); rintro e w' ⟨rfl, hb'⟩)
        go_ret
        refine ⟨ret_bool ?_, hb.trans (by repeat (first | exact Below.refl _ _ | refine Below.drew ?_ | refine below_drewN ?_ _ | refine Below.alloc ?_ (by first | omega | (simp; done) | (simp; omega)) _ | refine Below.setCell ?_ (by first | omega | (simp; done) | (simp; omega)) _ | refine Below.trans ?_ (Below.mono hb' (by first | omega | (simp; done) | (simp; omega)))))⟩
        rw [hall.out]
        have : t.args.all (Tm.all fun x => !x.isApp) = false := by
          rw [← Bool.not_eq_true, List.all_eq_true]
          intro hx
          have := hx _ (List.getElem_mem hjx)
          rw [hq.out] at this
          cases this
        rw [this, Bool.and_false]
    · go_wp2_with fail
      go_ret
      refine ⟨ret_bool ?_, hb⟩
      have h4 : l.an = t.args.length := hr.1
      rw [hall.out]
      have : t.args.all (Tm.all fun x => !x.isApp) = true := by
        rw [List.all_eq_true]
        intro x hx
        obtain ⟨i, hi, rfl⟩ := List.mem_iff_getElem.1 hx
        exact HR.out i hi (by omega)
      rw [this, Bool.and_true]
      rfl
end Go.Proofs.Ytaackbedahpnaaa
