/-
  The walks of IsTerm in both texts.
-/
import Derived.Test.YtmdmnchnkfjpjaaAllF
import Derived.Test.YtmdmnchnkfjpjaaFieldM
import Derived.Deep.RegionWith
namespace Go.Proofs.Ytmdmnchnkfjpjaa
open Go.RowKit
set_option maxRecDepth 100000
set_option linter.unusedVariables false
set_option linter.unusedSimpArgs false

/-- A term of the language. -/
def Tm.ok (t : Tm) : Bool := t.all formI
theorem Tm.ok_eq (t : Tm) : t.ok = (nodeS t && t.args.all Tm.ok) := by
  rw [node_form]
  exact Tm.all_eq formI t

theorem implIsTerm_any (t : Tm) (l : Lt) (w : World) (h : Md w t l) (hw : t.wt ≤ 1048576) :
    Calls Try.prog 12 #[.agg #[.int .i64 t.kind, .string t.name, .string t.other, .int .i64 t.n, .int .i64 t.type.kind, .slice l.ta l.tn l.tc, .int .i64 t.res.kind, .slice l.ra l.rn l.rc, .slice l.aa l.an l.ac]] w fun e w' => e = .returned (.bool t.ok) ∧ Below w.heap.size w w' := by
  have C := hide (allTerms_isForm_any t l _ (h.below (below_new w (.cells #[.int .i64 t.kind, .string t.name, .string t.other, .int .i64 t.n, .int .i64 t.type.kind, .slice l.ta l.tn l.tc, .int .i64 t.res.kind, .slice l.ra l.rn l.rc, .slice l.aa l.an l.ac] 29))) hw)
  go_enter Try.func12, Try.ntmps12
  go_wp2_with (go_at_call 26; (with_reducible refine C.out.mono ?_); rintro e w1 ⟨rfl, b1⟩)
  go_ret
  exact ⟨rfl, below_of_alloc b1⟩

set_option maxHeartbeats 1600000 in
theorem specIsTerm_any (t : Tm) : ∀ (l : Lt) (w : World), Md w t l → t.wt ≤ 1048576 →
    Calls Try.prog 13 #[.agg #[.int .i64 t.kind, .string t.name, .string t.other, .int .i64 t.n, .int .i64 t.type.kind, .slice l.ta l.tn l.tc, .int .i64 t.res.kind, .slice l.ra l.rn l.rc, .slice l.aa l.an l.ac]] w fun e w' => e = .returned (.bool t.ok) ∧ Below w.heap.size w w' := by
  induction t using Tm.ind' with | h t ih => ?_
  intro l w h hl
  have IH := hide ih
  clear ih
  obtain ⟨h0, ht, hrr, hr⟩ := h.shape
  clear ht hrr
  have H := hide h
  clear h
  have hn : l.an ≤ 1048576 := by
    have := Tm.length_le_wts t.args
    have h1 : l.an = t.args.length := hr.1
    have := t.wt_eq
    omega
  have hall := hide t.ok_eq
  go_enter Try.func13, Try.ntmps13
  go_wp2_with fail
  go_loopw [3] (fun i wr => ∃ j : Nat, j ≤ l.an ∧ i = .int .i64 j ∧ Hid (∀ i (h : i < t.args.length), i < j → t.args[i].ok = true) ∧ Blk wr w.heap.size 29 #[.int .i64 t.kind, .string t.name, .string t.other, .int .i64 t.n, .int .i64 t.type.kind, .slice l.ta l.tn l.tc, .int .i64 t.res.kind, .slice l.ra l.rn l.rc, .slice l.aa l.an l.ac] ∧ Below w.heap.size w wr) (fun i _ => l.an - (intOf i).toNat)
  case atStart => exact ⟨0, by omega, rfl, fun i _ hi => by omega, Blk.new _ _ _, below_new _ _⟩
  case round =>
    obtain ⟨j, hj, rfl, HR, hB, hb⟩ := hrel
    have hsz := hb.size
    obtain ⟨v0, v1, v2, v3, v4, v5, v6, v7, hcell8⟩ := hB.nine
    by_cases hjn : j < l.an
    · have hjx : j < t.args.length := by rw [← hr.1]; exact hjn
      obtain ⟨b, off, l', ha, hlt, hc, hd⟩ := (hr.below hb).get j hjx
      obtain ⟨e0, e1, e2, e3, e4, e5, e6, e7, e8⟩ := hc.nine
      clear hc
      rw [ha] at hcell8 ⊢
      have hz1 : t.args[j].wt ≤ 1048576 := Tm.wt_arg (List.getElem_mem hjx) hl
      cases hq : t.args[j].ok with
      | true =>
        have C := hide (fun W hW => IH.out _ (List.getElem_mem hjx) l' W hW hz1)
        rw [hq] at C
        replace hq := hide hq
        go_wp2_with (go_at_call 13; (with_reducible refine (C.out _ hd).mono ?_); rintro e w' ⟨rfl, hb'⟩)
        go_roundw
        case rel =>
          refine ⟨j + 1, by omega, by go_num, fun i hi hij => ?_, (by have hB2 := hB.under hb'; rw [ha] at hB2; exact hB2), hb.trans (by repeat (first | exact Below.refl _ _ | refine Below.drew ?_ | refine below_drewN ?_ _ | refine Below.alloc ?_ (by first | omega | (simp; done) | (simp; omega)) _ | refine Below.setCell ?_ (by first | omega | (simp; done) | (simp; omega)) _ | refine Below.trans ?_ (Below.mono hb' (by first | omega | (simp; done) | (simp; omega)))))⟩
          by_cases hij' : i < j
          · exact HR.out i hi hij'
          · obtain rfl : i = j := by omega
            exact hq.out
        case measure => simp [intOf]; omega
      | false =>
        have C := hide (fun W hW => IH.out _ (List.getElem_mem hjx) l' W hW hz1)
        rw [hq] at C
        replace hq := hide hq
        go_wp2_with (go_at_call 13; (with_reducible refine (C.out _ hd).mono ?_); rintro e w' ⟨rfl, hb'⟩)
        go_ret
        refine ⟨ret_bool ?_, hb.trans (by repeat (first | exact Below.refl _ _ | refine Below.drew ?_ | refine below_drewN ?_ _ | refine Below.alloc ?_ (by first | omega | (simp; done) | (simp; omega)) _ | refine Below.setCell ?_ (by first | omega | (simp; done) | (simp; omega)) _ | refine Below.trans ?_ (Below.mono hb' (by first | omega | (simp; done) | (simp; omega)))))⟩
        rw [hall.out, all_no hjx hq.out, Bool.and_false]
    · have h4 : l.an = t.args.length := hr.1
      have hfin : t.ok = nodeS t := by rw [hall.out, all_yes fun i hi => HR.out i hi (by omega), Bool.and_true]
      have hlen : (l.an : Int) = (t.args.length : Int) := by rw [h4]
      have HF := hide (show t.ok = (fieldsS t && ((l.an : Int) == arityS t.kind t.name)) by rw [hfin, nodeS, hlen])
      clear hfin hlen h4 hall
      have C := hide (fun W (hW : Below w.heap.size w W) => l5Fields_any t l W (H.out.below hW) hl)
      cases hf : fieldsS t with
      | false =>
        rw [hf] at C HF
        have hbd : Below w.heap.size w wr.drew := hb.drew
        have hun : undef = Value.tuple #[] := rfl
        go_wp2_with fail
        first | go_region_with (go_at_call 28; (with_reducible refine (C.out _ hbd).mono ?_); rintro e w1 ⟨rfl, b1⟩; have k1 := hbd.trans (b1.mono hbd.size)) | fail
        all_goals clear hun
        all_goals go_wp2_with fail
        all_goals go_ret
        all_goals exact ⟨ret_bool (by rw [HF.out]; rfl), k1⟩
      | true =>
        rw [hf] at C HF
        have hbd : Below w.heap.size w wr.drew := hb.drew
        have hun : undef = Value.tuple #[] := rfl
        go_wp2_with fail
        first | go_region_with (first
          | (go_at_call 28; (with_reducible refine (C.out _ hbd).mono ?_); rintro e w1 ⟨rfl, b1⟩
             have k1 := hbd.trans (b1.mono hbd.size)
             have B1 : Blk w1 _ _ _ := Blk.under (w := wr.drew) hB b1
             obtain ⟨u0, u1, u2, u3, u4, u5, u6, u7, u8⟩ := B1.nine)
          | (go_at_call 29; (with_reducible refine (l5Arity_any t l _).mono ?_); rintro e w2 ⟨rfl, b2⟩
             have k2 := k1.trans (b2.mono k1.size)
             have B2 := B1.under b2
             obtain ⟨p0, p1, p2, p3, p4, p5, p6, p7, p8⟩ := B2.nine)) | fail
        all_goals clear hun
        all_goals go_wp2_with fail
        all_goals go_ret
        all_goals exact ⟨ret_bool (by rw [HF.out]; rfl), k2⟩
end Go.Proofs.Ytmdmnchnkfjpjaa
