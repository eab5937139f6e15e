/-
  The walks of IsPlain in both texts, and the plain law that their tests of a node say the same of a term.
-/
import Derived.Test.YtpiaacidieeilaaTermM
import Derived.Test.YtpiaacidieeilaaAllP
namespace Go.Proofs.Ytpiaacidieeilaa
open Go.RowKit
set_option linter.unusedVariables false
set_option linter.unusedSimpArgs false

/-- The reference's test of a plain node. -/
def plainS (t : Tm) : Bool := decide (t.kind < 10) && (!t.type.hasKind 4 && !t.res.hasKind 4)
theorem plainS_eq (t : Tm) : plainS t = (decide (t.kind < 10) && (!t.type.hasKind 4 && !t.res.hasKind 4)) := rfl
theorem Ty.zero_plain {t : Ty} (h : t.zero = true) : t.hasKind 4 = false := by
  rw [Ty.zero_form h]
  simp [Ty.hasKind_eq]
theorem arityS_in {k : Int} {nm : ByteArray} (h : 0 ≤ arityS k nm) : 1 ≤ k ∧ k ≤ 13 := by
  unfold arityS at h
  simp only [Bool.or_eq_true, beq_iff_eq] at h
  split at h
  · omega
  · split at h
    · omega
    · split at h
      · omega
      · split at h
        · omega
        · split at h
          · omega
          · omega
theorem plain_node {t : Tm} (h : formI t = true) : plainS t = t.plainNode := by
  rw [← node_form, nodeS, Bool.and_eq_true] at h
  obtain ⟨hf, hl⟩ := h
  have hk := arityS_in (k := t.kind) (nm := t.name) (by rw [beq_iff_eq] at hl; omega)
  rw [fieldsS_eq, Bool.and_eq_true, Bool.and_eq_true] at hf
  obtain ⟨h1, h2, -⟩ := hf
  have hin : inB t.kind 10 13 = !decide (t.kind < 10) := by
    rw [Bool.eq_iff_iff, inB_iff]
    simp
    omega
  rw [plainS, Tm.plainNode, hin, Ty.plain, Ty.plain, ← Ty.hasKind_code, ← Ty.hasKind_code]
  have z1 := fun h : t.type.zero = true => Ty.zero_plain h
  have z2 := fun h : t.res.zero = true => Ty.zero_plain h
  generalize t.type.hasKind 4 = a1 at *
  generalize t.res.hasKind 4 = a2 at *
  generalize t.type.valid = v1 at *
  generalize t.res.valid = v2 at *
  generalize t.type.zero = y1 at *
  generalize t.res.zero = y2 at *
  by_cases h6 : t.kind = 6
  · simp [h6] at h1 h2 ⊢
    simp_all
  · by_cases h9 : t.kind = 9
    · simp [h9] at h1 h2 ⊢
      simp_all
    · have e6 : (t.kind == 6) = false := by simp [h6]
      have e9 : (t.kind == 9) = false := by simp [h9]
      have n9 : (t.kind != 9) = true := by simp [h9]
      rw [e6, e9] at h1
      rw [e9] at h2
      rw [e6, e9]
      simp at h1 h2 ⊢
      simp_all
theorem all_same {p q : Tm → Bool} {r : Tm → Bool} (h : ∀ t, r t = true → p t = q t) (t : Tm) : t.all r = true → t.all p = t.all q := by
  induction t using Tm.ind' with | h t ih => ?_
  intro hr
  rw [Tm.all_eq, Bool.and_eq_true, List.all_eq_true] at hr
  rw [Tm.all_eq, Tm.all_eq, h t hr.1]
  congr 1
  rw [Bool.eq_iff_iff, List.all_eq_true, List.all_eq_true]
  constructor
  · intro hh x hx
    rw [← ih x hx (hr.2 x hx)]
    exact hh x hx
  · intro hh x hx
    rw [ih x hx (hr.2 x hx)]
    exact hh x hx
/-- A plain term. -/
def Tm.plain (t : Tm) : Bool := t.ok && t.all Tm.plainNode
theorem Tm.plain_eq (t : Tm) : t.plain = (t.ok && t.all plainS) := by
  rw [Tm.plain]
  cases h : t.ok with
  | false => rfl
  | true => rw [all_same (fun t h => plain_node h) t h]

set_option maxHeartbeats 3200000 in
theorem l8Plain_any (t : Tm) : ∀ (l : Lt) (w : World), Md w t l → t.wt ≤ 1048576 →
    Calls Try.prog 41 #[.agg #[.int .i64 t.kind, .string t.name, .string t.other, .int .i64 t.n, .int .i64 t.type.kind, .slice l.ta l.tn l.tc, .int .i64 t.res.kind, .slice l.ra l.rn l.rc, .slice l.aa l.an l.ac]] w fun e w' => e = .returned (.bool (t.all plainS)) ∧ Below w.heap.size w w' := by
  induction t using Tm.ind' with | h t ih => ?_
  intro l w h hl
  have IH := hide ih
  clear ih
  obtain ⟨h0, ht, hrr, hr⟩ := h.shape
  clear h
  have hn : l.an ≤ 9223372036854775807 := by obtain ⟨_, h2, h3, _⟩ := hr; unfold maxLen at h3; omega
  have hall := hide (t.all_eq plainS)
  have CV := hide fun W (hW : Below w.heap.size w W) => l3Has_any 4 t.type _ _ W (ht.below hW)
  have DV := hide fun W (hW : Below w.heap.size w W) => l3Has_any 4 t.res _ _ W (hrr.below hW)
  clear ht hrr
  go_enter Try.func41, Try.ntmps41
  go_wp2_with fail
  go_loopw [3] (fun i wr => ∃ j : Nat, j ≤ l.an ∧ i = .int .i64 j ∧ Hid (∀ i (h : i < t.args.length), i < j → t.args[i].all plainS = true) ∧ Blk wr w.heap.size 35 #[.int .i64 t.kind, .string t.name, .string t.other, .int .i64 t.n, .int .i64 t.type.kind, .slice l.ta l.tn l.tc, .int .i64 t.res.kind, .slice l.ra l.rn l.rc, .slice l.aa l.an l.ac] ∧ Below w.heap.size w wr) (fun i _ => l.an - (intOf i).toNat)
  case atStart => exact ⟨0, by omega, rfl, fun i _ hi => by omega, Blk.new _ _ _, below_new _ _⟩
  case round =>
    obtain ⟨j, hj, rfl, HR, hB, hb⟩ := hrel
    have hsz := hb.size
    obtain ⟨v0, v1, v2, v3, v4, v5, v6, v7, hcell8⟩ := hB.nine
    by_cases hjn : j < l.an
    · have hjx : j < t.args.length := by rw [← hr.1]; exact hjn
      obtain ⟨b, off, l', ha, hlt, hc, hd⟩ := (hr.below hb).get j hjx
      obtain ⟨e0, e1, e2, e3, e4, e5, e6, e7, e8⟩ := hc.nine
      clear hc
      rw [ha] at hcell8 ⊢
      have hz1 : t.args[j].wt ≤ 1048576 := Tm.wt_arg (List.getElem_mem hjx) hl
      cases hq : t.args[j].all plainS with
      | true =>
        have C := hide (fun W hW => IH.out _ (List.getElem_mem hjx) l' W hW hz1)
        rw [hq] at C
        replace hq := hide hq
        go_wp2_with (go_at_call 41; (with_reducible refine (C.out _ hd).mono ?_); rintro e w' ⟨rfl, hb'⟩)
        go_roundw
        case rel =>
          refine ⟨j + 1, by omega, by go_num, fun i hi hij => ?_, (by have hB2 := hB.under hb'; rw [ha] at hB2; exact hB2), hb.trans (by repeat (first | exact Below.refl _ _ | refine Below.drew ?_ | refine below_drewN ?_ _ | refine Below.alloc ?_ (by first | omega | (simp; done) | (simp; omega)) _ | refine Below.setCell ?_ (by first | omega | (simp; done) | (simp; omega)) _ | refine Below.trans ?_ (Below.mono hb' (by first | omega | (simp; done) | (simp; omega)))))⟩
          by_cases hij' : i < j
          · exact HR.out i hi hij'
          · obtain rfl : i = j := by omega
            exact hq.out
        case measure => simp [intOf]; omega
      | false =>
        have C := hide (fun W hW => IH.out _ (List.getElem_mem hjx) l' W hW hz1)
        rw [hq] at C
        replace hq := hide hq
        go_wp2_with (go_at_call 41; (with_reducible refine (C.out _ hd).mono ?_); rintro e w' ⟨rfl, hb'⟩)
        go_ret
        refine ⟨ret_bool ?_, hb.trans (by repeat (first | exact Below.refl _ _ | refine Below.drew ?_ | refine below_drewN ?_ _ | refine Below.alloc ?_ (by first | omega | (simp; done) | (simp; omega)) _ | refine Below.setCell ?_ (by first | omega | (simp; done) | (simp; omega)) _ | refine Below.trans ?_ (Below.mono hb' (by first | omega | (simp; done) | (simp; omega)))))⟩
        rw [hall.out, all_no hjx hq.out, Bool.and_false]
    · have h4 : l.an = t.args.length := hr.1
      have hfin := show t.all plainS = plainS t by rw [hall.out, all_yes fun i hi => HR.out i hi (by omega), Bool.and_true]
      rw [plainS_eq] at hfin
      replace hfin := hide hfin
      clear h4
      go_wp2_with (first
        | (go_at_call 68; (with_reducible refine (CV.out _ hb).mono ?_); rintro e w1 ⟨rfl, b1⟩
           have k1 := hb.trans (b1.mono hb.size)
           have B1 := hB.under b1
           obtain ⟨p0, p1, p2, p3, p4, p5, p6, p7, p8⟩ := B1.nine)
        | (go_at_call 68; (with_reducible refine (DV.out _ k1).mono ?_); rintro e w2 ⟨rfl, b2⟩
           have k2 := k1.trans (b2.mono k1.size)))
      all_goals go_ret
      all_goals first
        | exact ⟨ret_bool (by rw [hfin.out]; simp_all), k2⟩
        | exact ⟨ret_bool (by rw [hfin.out]; simp_all), k1⟩
        | exact ⟨ret_bool (by rw [hfin.out, decide_eq_false (by omega), Bool.false_and]), hb⟩
set_option maxHeartbeats 800000 in
theorem specIsPlain_any (t : Tm) (l : Lt) (w : World) (h : Md w t l) (hw : t.wt ≤ 1048576) :
    Calls Try.prog 17 #[.agg #[.int .i64 t.kind, .string t.name, .string t.other, .int .i64 t.n, .int .i64 t.type.kind, .slice l.ta l.tn l.tc, .int .i64 t.res.kind, .slice l.ra l.rn l.rc, .slice l.aa l.an l.ac]] w fun e w' => e = .returned (.bool t.plain) ∧ Below w.heap.size w w' := by
  have h1 : Md (w.alloc (.cells #[.int .i64 t.kind, .string t.name, .string t.other, .int .i64 t.n, .int .i64 t.type.kind, .slice l.ta l.tn l.tc, .int .i64 t.res.kind, .slice l.ra l.rn l.rc, .slice l.aa l.an l.ac] 35)) t l := h.below (below_new _ _)
  have hv : t.plain = (t.ok && t.all plainS) := by first | exact t.plain_eq | rfl
  cases ho : t.ok with
  | false =>
    have C := specIsTerm_any t l _ h1 hw
    rw [ho] at C hv
    replace C := hide C
    replace hv := hide hv
    clear ho
    go_enter Try.func17, Try.ntmps17
    go_wp2_with (go_at_call 11; (with_reducible refine C.out.mono ?_); rintro e w1 ⟨rfl, b1⟩)
    go_ret
    exact ⟨ret_bool (by rw [hv.out]; rfl), below_of_alloc b1⟩
  | true =>
    have C := specIsTerm_any t l _ h1 hw
    rw [ho] at C hv
    replace C := hide C
    replace hv := hide hv
    clear ho
    go_enter Try.func17, Try.ntmps17
    go_wp2_with (first
      | (go_at_call 11; (with_reducible refine C.out.mono ?_); rintro e w1 ⟨rfl, b1⟩
         have B1 := (Blk.new w _ _).under b1
         have h2 := h1.below b1
         obtain ⟨u0, u1, u2, u3, u4, u5, u6, u7, u8⟩ := B1.nine)
      | (go_at_call 41; (with_reducible refine (l8Plain_any t l _ h2 hw).mono ?_); rintro e w2 ⟨rfl, b2⟩))
    go_ret
    exact ⟨ret_bool (by rw [hv.out]; rfl), below_next (below_of_alloc b1) b2⟩
set_option maxHeartbeats 800000 in
theorem implIsPlain_any (t : Tm) (l : Lt) (w : World) (h : Md w t l) (hw : t.wt ≤ 1048576) :
    Calls Try.prog 18 #[.agg #[.int .i64 t.kind, .string t.name, .string t.other, .int .i64 t.n, .int .i64 t.type.kind, .slice l.ta l.tn l.tc, .int .i64 t.res.kind, .slice l.ra l.rn l.rc, .slice l.aa l.an l.ac]] w fun e w' => e = .returned (.bool t.plain) ∧ Below w.heap.size w w' := by
  have h1 : Md (w.alloc (.cells #[.int .i64 t.kind, .string t.name, .string t.other, .int .i64 t.n, .int .i64 t.type.kind, .slice l.ta l.tn l.tc, .int .i64 t.res.kind, .slice l.ra l.rn l.rc, .slice l.aa l.an l.ac] 35)) t l := h.below (below_new _ _)
  have hv : t.plain = (t.ok && t.all Tm.plainNode) := by first | exact t.plain_eq | rfl
  cases ho : t.ok with
  | false =>
    have C := implIsTerm_any t l _ h1 hw
    rw [ho] at C hv
    replace C := hide C
    replace hv := hide hv
    clear ho
    go_enter Try.func18, Try.ntmps18
    go_wp2_with (go_at_call 13; (with_reducible refine C.out.mono ?_); rintro e w1 ⟨rfl, b1⟩)
    go_ret
    exact ⟨ret_bool (by rw [hv.out]; rfl), below_of_alloc b1⟩
  | true =>
    have C := implIsTerm_any t l _ h1 hw
    rw [ho] at C hv
    replace C := hide C
    replace hv := hide hv
    clear ho
    go_enter Try.func18, Try.ntmps18
    go_wp2_with (first
      | (go_at_call 13; (with_reducible refine C.out.mono ?_); rintro e w1 ⟨rfl, b1⟩
         have B1 := (Blk.new w _ _).under b1
         have h2 := h1.below b1
         obtain ⟨u0, u1, u2, u3, u4, u5, u6, u7, u8⟩ := B1.nine)
      | (go_at_call 33; (with_reducible refine (allTerms_plainNode_any t l _ h2 hw).mono ?_); rintro e w2 ⟨rfl, b2⟩))
    go_ret
    exact ⟨ret_bool (by rw [hv.out]; rfl), below_next (below_of_alloc b1) b2⟩
end Go.Proofs.Ytpiaacidieeilaa
