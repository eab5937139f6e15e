/-
  Levels, plain terms, counts: the walks in both texts.
-/
import Derived.Test.YtklifieahcoljaaGreatPkFn
import Derived.Deep.RegionHeld3
import Derived.Test.YtklifieahcoljaaGreatWrote
import Derived.Test.YtklifieahcoljaaGreatPkTy
import Derived.Test.YtklifieahcoljaaGreatPkFm
import Derived.Test.YtklifieahcoljaaGreatTm
import Derived.Test.YtklifieahcoljaaGreatPlain
import Derived.Test.YtklifieahcoljaaGreatRows
import Derived.LoopTactic
import Derived.Outline
namespace Go.Proofs.YtklifieahcoljaaGreat
set_option linter.unusedVariables false
set_option linter.unusedSimpArgs false

/-- The level of the parts of a node of kind k at level n. -/
def nextLv (k n : Int) : Int := if k == 10 then n + 1 else if k == 11 then n - 1 else n
mutual
/-- All nodes, each with its level, have the property. -/
def Tm.lv (p : Tm → Int → Bool) : Tm → Int → Bool
  | ⟨k, nm, ot, n, ty, re, xs⟩, m => p ⟨k, nm, ot, n, ty, re, xs⟩ m && Tm.lvs p xs (nextLv k m)
def Tm.lvs (p : Tm → Int → Bool) : List Tm → Int → Bool
  | [], _ => true
  | t :: ts, m => t.lv p m && Tm.lvs p ts m
end
theorem Tm.lvs_eq (p : Tm → Int → Bool) (xs : List Tm) (m : Int) : Tm.lvs p xs m = xs.all fun x => x.lv p m := by
  induction xs with
  | nil => rfl
  | cons x xs ih => rw [Tm.lvs, ih]; rfl
theorem Tm.lv_eq (p : Tm → Int → Bool) (t : Tm) (m : Int) : t.lv p m = (p t m && t.args.all fun x => x.lv p (nextLv t.kind m)) := by
  cases t
  rw [Tm.lv, Tm.lvs_eq]
/-- The levels of the language: 0, 1, 2. -/
abbrev lvOk (t : Tm) (m : Int) : Bool := t.lv (fun _ k => inB k 0 2) m
theorem lvOk_eq (t : Tm) (m : Int) : lvOk t m = (inB m 0 2 && t.args.all fun x => lvOk x (nextLv t.kind m)) := Tm.lv_eq _ t m
theorem lvOk_in {t : Tm} {m : Int} (h : lvOk t m = true) : 0 ≤ m ∧ m ≤ 2 := by
  rw [lvOk_eq, Bool.and_eq_true] at h
  exact inB_iff.1 h.1
theorem lvOk_arg {t : Tm} {m : Int} (h : lvOk t m = true) {x : Tm} (hx : x ∈ t.args) : lvOk x (nextLv t.kind m) = true := by
  rw [lvOk_eq, Bool.and_eq_true, List.all_eq_true] at h
  exact h.2 x hx
/-- No splice at level 1. -/
def unspliced (t : Tm) (m : Int) : Bool := (t.kind != 11) || (m != 1)
abbrev lvMade (t : Tm) (m : Int) : Bool := t.lv unspliced m
theorem lvMade_eq (t : Tm) (m : Int) : lvMade t m = (unspliced t m && t.args.all fun x => lvMade x (nextLv t.kind m)) := Tm.lv_eq _ t m

mutual
/-- The greatest level of a node. -/
def Tm.hi : Tm → Int → Int
  | ⟨k, _, _, _, _, _, xs⟩, m => Tm.his xs (nextLv k m) m
def Tm.his : List Tm → Int → Int → Int
  | [], _, a => a
  | t :: ts, m, a => Tm.his ts m (max a (t.hi m))
end
theorem Tm.hi_eq (t : Tm) (m : Int) : t.hi m = Tm.his t.args (nextLv t.kind m) m := by cases t; rw [Tm.hi]
theorem Tm.his_append (xs ys : List Tm) (m a : Int) : Tm.his (xs ++ ys) m a = Tm.his ys m (Tm.his xs m a) := by
  induction xs generalizing a with
  | nil => rfl
  | cons x xs ih => rw [List.cons_append, Tm.his, Tm.his, ih]
theorem Tm.his_take (xs : List Tm) (m a : Int) (k : Nat) (h : k < xs.length) : Tm.his (xs.take (k + 1)) m a = max (Tm.his (xs.take k) m a) (xs[k].hi m) := by
  rw [take_snoc xs k h, Tm.his_append]
  rfl
theorem Tm.his_max (xs : List Tm) (m a b : Int) : Tm.his xs m (max a b) = max a (Tm.his xs m b) := by
  induction xs generalizing b with
  | nil => rfl
  | cons x xs ih => rw [Tm.his, Tm.his, Int.max_assoc, ih]
theorem Tm.his_le (xs : List Tm) (m a c : Int) (ha : a ≤ c) (h : ∀ x ∈ xs, x.hi m ≤ c) : Tm.his xs m a ≤ c := by
  induction xs generalizing a with
  | nil => exact ha
  | cons x xs ih =>
    rw [Tm.his]
    exact ih _ (by have := h x (by simp); omega) fun y hy => h y (by simp [hy])
theorem Tm.his_ge (xs : List Tm) (m a : Int) : a ≤ Tm.his xs m a := by
  induction xs generalizing a with
  | nil => exact Int.le_refl _
  | cons x xs ih =>
    rw [Tm.his]
    have := ih (max a (x.hi m))
    omega
theorem Tm.hi_in (t : Tm) : ∀ m, lvOk t m = true → 0 ≤ t.hi m ∧ t.hi m ≤ 2 := by
  induction t using Tm.ind' with | h t ih => ?_
  intro m h
  have h1 := lvOk_in h
  rw [Tm.hi_eq]
  have h2 := Tm.his_ge t.args (nextLv t.kind m) m
  exact ⟨by omega, Tm.his_le _ _ _ _ h1.2 fun x hx => (ih x hx _ (lvOk_arg h hx)).2⟩
end Go.Proofs.YtklifieahcoljaaGreat

namespace Go.Proofs.YtklifieahcoljaaGreat
open Go.RowKit
set_option maxRecDepth 100000
set_option linter.unusedVariables false
set_option linter.unusedSimpArgs false

theorem CellsAt.below {w w' : World} {b off : Nat} {vs : List Value} (h : CellsAt w b off vs) (hl : b < w.heap.size) (hb : Below w.heap.size w w') : CellsAt w' b off vs :=
  h.keep fun o _ _ => hb.cell (p := ⟨b, o, none⟩) hl
theorem Blk.nine_at {w : World} {g T : Nat} {t : Tm} {l : Lt} {p : Option Addr} (h : Blk w g T #[.int .i64 t.kind, .string t.name, .string t.other, .int .i64 t.n, .int .i64 t.type.kind, .slice l.ta l.tn l.tc, .int .i64 t.res.kind, .slice l.ra l.rn l.rc, .slice l.aa l.an l.ac]) (ha : l.aa = p) : (w.cell? ⟨g, 0, none⟩ = some (.int .i64 t.kind) ∧ w.cell? ⟨g, 1, none⟩ = some (.string t.name) ∧ w.cell? ⟨g, 2, none⟩ = some (.string t.other) ∧ w.cell? ⟨g, 3, none⟩ = some (.int .i64 t.n) ∧ w.cell? ⟨g, 4, none⟩ = some (.int .i64 t.type.kind) ∧ w.cell? ⟨g, 5, none⟩ = some (.slice l.ta l.tn l.tc) ∧ w.cell? ⟨g, 6, none⟩ = some (.int .i64 t.res.kind) ∧ w.cell? ⟨g, 7, none⟩ = some (.slice l.ra l.rn l.rc) ∧ w.cell? ⟨g, 8, none⟩ = some (.slice p l.an l.ac)) := by
  subst ha
  exact h.nine

theorem l8Next_any (t : Tm) (l : Lt) (m : Int) (w : World) (h0 : 0 ≤ m) (h2 : m ≤ 2) : Calls Tryz.prog 56 #[.agg #[.int .i64 t.kind, .string t.name, .string t.other, .int .i64 t.n, .int .i64 t.type.kind, .slice l.ta l.tn l.tc, .int .i64 t.res.kind, .slice l.ra l.rn l.rc, .slice l.aa l.an l.ac], .int .i64 m] w fun e w' => e = .returned (.int .i64 (nextLv t.kind m)) ∧ Below w.heap.size w w' := by
  by_cases ha : t.kind = 10
  · have g := beq_iff_eq.2 ha
    go_enter Tryz.func56, Tryz.ntmps56
    go_wp2_with fail
    all_goals go_ret
    all_goals exact ⟨ret_int (by simp [nextLv, ha]), below_new _ _⟩
  · have g := beq_eq_false_iff_ne.2 ha
    by_cases hb : t.kind = 11
    · have g' := beq_iff_eq.2 hb
      go_enter Tryz.func56, Tryz.ntmps56
      go_wp2_with fail
      all_goals go_ret
      all_goals exact ⟨ret_int (by simp [nextLv, hb]), below_new _ _⟩
    · have g' := beq_eq_false_iff_ne.2 hb
      go_enter Tryz.func56, Tryz.ntmps56
      go_wp2_with fail
      all_goals go_ret
      all_goals exact ⟨ret_int (by simp [nextLv, ha, hb]), below_new _ _⟩
theorem partLevel_any (t : Tm) (l : Lt) (m : Int) (w : World) (h0 : 0 ≤ m) (h2 : m ≤ 2) : Calls Tryz.prog 52 #[.agg #[.int .i64 t.kind, .string t.name, .string t.other, .int .i64 t.n, .int .i64 t.type.kind, .slice l.ta l.tn l.tc, .int .i64 t.res.kind, .slice l.ra l.rn l.rc, .slice l.aa l.an l.ac], .int .i64 m] w fun e w' => e = .returned (.int .i64 (nextLv t.kind m)) ∧ Below w.heap.size w w' := by
  by_cases ha : t.kind = 10
  · have g := beq_iff_eq.2 ha
    go_enter Tryz.func52, Tryz.ntmps52
    go_wp2_with fail
    all_goals go_ret
    all_goals exact ⟨ret_int (by simp [nextLv, ha]), below_new _ _⟩
  · have g := beq_eq_false_iff_ne.2 ha
    by_cases hb : t.kind = 11
    · have g' := beq_iff_eq.2 hb
      go_enter Tryz.func52, Tryz.ntmps52
      go_wp2_with fail
      all_goals go_ret
      all_goals exact ⟨ret_int (by simp [nextLv, hb]), below_new _ _⟩
    · have g' := beq_eq_false_iff_ne.2 hb
      go_enter Tryz.func52, Tryz.ntmps52
      go_wp2_with fail
      all_goals go_ret
      all_goals exact ⟨ret_int (by simp [nextLv, ha, hb]), below_new _ _⟩

set_option maxHeartbeats 3200000 in
theorem l8Ok_any (t : Tm) : ∀ (l : Lt) (m : Int) (w : World), Md w t l →
    Calls Tryz.prog 26 #[.agg #[.int .i64 t.kind, .string t.name, .string t.other, .int .i64 t.n, .int .i64 t.type.kind, .slice l.ta l.tn l.tc, .int .i64 t.res.kind, .slice l.ra l.rn l.rc, .slice l.aa l.an l.ac], .int .i64 m] w fun e w' => e = .returned (.bool (lvOk t m)) ∧ Below w.heap.size w w' := by
  induction t using Tm.ind' with | h t ih => ?_
  intro l m w h
  have IH := hide ih
  clear ih
  obtain ⟨-, -, -, hr⟩ := h.shape
  clear h
  have hn : l.an ≤ 9223372036854775807 := by obtain ⟨_, h2, h3, _⟩ := hr; unfold maxLen at h3; omega
  have hall := lvOk_eq t m
  cases hin : inB m 0 2 with
  | false =>
    rw [hin, Bool.false_and] at hall
    replace hall := hide hall
    go_enter Tryz.func26, Tryz.ntmps26
    go_wp2_with (go_at_call 55; (with_reducible refine (l1In_is hin _).mono ?_); rintro e w1 ⟨rfl, rfl⟩)
    go_ret
    exact ⟨ret_bool hall.out.symm, below_new _ _⟩
  | true =>
    rw [hin, Bool.true_and] at hall
    replace hall := hide hall
    obtain ⟨m0, m2⟩ := inB_iff.1 hin
    have C1 := hide (fun W => l1In_is hin W)
    clear hin
    go_enter Tryz.func26, Tryz.ntmps26
    go_wp2_with (go_at_call 55; (with_reducible refine (C1.out _).mono ?_); rintro e w1 ⟨rfl, rfl⟩)
    go_loopw [5] (fun i wr => ∃ j : Nat, j ≤ l.an ∧ i = .int .i64 j ∧ Hid (∀ i (h : i < t.args.length), i < j → lvOk t.args[i] (nextLv t.kind m) = true) ∧ Blk wr w.heap.size 29 #[.int .i64 t.kind, .string t.name, .string t.other, .int .i64 t.n, .int .i64 t.type.kind, .slice l.ta l.tn l.tc, .int .i64 t.res.kind, .slice l.ra l.rn l.rc, .slice l.aa l.an l.ac] ∧ Below w.heap.size w wr) (fun i _ => l.an - (intOf i).toNat)
    case atStart => exact ⟨0, by omega, rfl, fun i _ hi => by omega, Blk.new _ _ _, below_new _ _⟩
    case round =>
      obtain ⟨j, hj, rfl, HR, hB, hb⟩ := hrel
      have hsz := hb.size
      by_cases hjn : j < l.an
      · have hjx : j < t.args.length := by rw [← hr.1]; exact hjn
        obtain ⟨b, off, l', ha, hlt, hc, hd⟩ := (hr.below hb).get j hjx
        obtain ⟨e0, e1, e2, e3, e4, e5, e6, e7, e8⟩ := hc.nine
        obtain ⟨v0, v1, v2, v3, v4, v5, v6, v7, v8⟩ := hB.nine_at ha
        have i0 : (0 : Int) ≤ (j : Int) := by omega
        have i1 : (j : Int) < (l.an : Int) := by omega
        have hltd : b < wr.drew.heap.size := hlt
        have hcd : CellsAt wr.drew b (off + j * 9) (tcells t.args[j] l') := hc
        have hdd : Md wr.drew t.args[j] l' := hd.below (below_drew wr)
        have hbd : Below w.heap.size w wr.drew := hb.drew
        have CN := fun W => l8Next_any t l m W m0 m2
        rw [ha] at CN
        replace CN := hide CN
        have HA := hide ha
        replace hc := hide hc
        replace hcd := hide hcd
        clear ha
        cases hq : lvOk t.args[j] (nextLv t.kind m) with
        | true =>
          have C := hide (fun W hW => IH.out _ (List.getElem_mem hjx) l' (nextLv t.kind m) W hW)
          rw [hq] at C
          replace hq := hide hq
          go_wp2_with fail
          go_region_held3 (fun W => (W.cell? ⟨w.heap.size, 0, none⟩ = some (.int .i64 t.kind) ∧ W.cell? ⟨w.heap.size, 1, none⟩ = some (.string t.name) ∧ W.cell? ⟨w.heap.size, 2, none⟩ = some (.string t.other) ∧ W.cell? ⟨w.heap.size, 3, none⟩ = some (.int .i64 t.n) ∧ W.cell? ⟨w.heap.size, 4, none⟩ = some (.int .i64 t.type.kind) ∧ W.cell? ⟨w.heap.size, 5, none⟩ = some (.slice l.ta l.tn l.tc) ∧ W.cell? ⟨w.heap.size, 6, none⟩ = some (.int .i64 t.res.kind) ∧ W.cell? ⟨w.heap.size, 7, none⟩ = some (.slice l.ra l.rn l.rc) ∧ W.cell? ⟨w.heap.size, 8, none⟩ = some (.slice (some ⟨b, off, none⟩) l.an l.ac)) ∧ (W.cell? ⟨b, off + j * 9, none⟩ = some (.int .i64 t.args[j].kind) ∧ W.cell? ⟨b, off + j * 9 + 1, none⟩ = some (.string t.args[j].name) ∧ W.cell? ⟨b, off + j * 9 + 2, none⟩ = some (.string t.args[j].other) ∧ W.cell? ⟨b, off + j * 9 + 3, none⟩ = some (.int .i64 t.args[j].n) ∧ W.cell? ⟨b, off + j * 9 + 4, none⟩ = some (.int .i64 t.args[j].type.kind) ∧ W.cell? ⟨b, off + j * 9 + 5, none⟩ = some (.slice l'.ta l'.tn l'.tc) ∧ W.cell? ⟨b, off + j * 9 + 6, none⟩ = some (.int .i64 t.args[j].res.kind) ∧ W.cell? ⟨b, off + j * 9 + 7, none⟩ = some (.slice l'.ra l'.rn l'.rc) ∧ W.cell? ⟨b, off + j * 9 + 8, none⟩ = some (.slice l'.aa l'.an l'.ac)))
            (first | exact ⟨⟨v0, v1, v2, v3, v4, v5, v6, v7, v8⟩, e0, e1, e2, e3, e4, e5, e6, e7, e8⟩ | exact ⟨B1.nine_at HA.out, c1.out.nine⟩ | exact ⟨B2.nine_at HA.out, c2.out.nine⟩)
            (first
              | (go_at_call 56; (with_reducible refine (CN.out _).mono ?_); rintro e w1 ⟨rfl, b1⟩
                 have B1 : Blk w1 _ _ _ := Blk.under (w := wr.drew) hB b1
                 have c1 := hide (hcd.out.below hltd b1)
                 have l1 := Nat.lt_of_lt_of_le hltd b1.size
                 have d1 := hdd.below b1
                 have k1 := hbd.trans (b1.mono hbd.size))
              | (go_at_call 26; (with_reducible refine (C.out _ d1).mono ?_); rintro e w2 ⟨rfl, b2⟩
                 have B2 := B1.under b2
                 have c2 := hide (c1.out.below l1 b2)
                 have k2 := k1.trans (b2.mono k1.size)))
          go_wp2_with fail
          go_roundw
          case rel =>
            refine ⟨j + 1, by omega, by go_num, fun i hi hij => ?_, (by first | exact B2 | (have := B2; rw [HA.out] at this; exact this)), k2⟩
            by_cases hij' : i < j
            · exact HR.out i hi hij'
            · obtain rfl : i = j := by omega
              exact hq.out
          case measure => simp [intOf]; omega
        | false =>
          have C := hide (fun W hW => IH.out _ (List.getElem_mem hjx) l' (nextLv t.kind m) W hW)
          rw [hq] at C
          replace hq := hide hq
          go_wp2_with fail
          go_region_held3 (fun W => (W.cell? ⟨w.heap.size, 0, none⟩ = some (.int .i64 t.kind) ∧ W.cell? ⟨w.heap.size, 1, none⟩ = some (.string t.name) ∧ W.cell? ⟨w.heap.size, 2, none⟩ = some (.string t.other) ∧ W.cell? ⟨w.heap.size, 3, none⟩ = some (.int .i64 t.n) ∧ W.cell? ⟨w.heap.size, 4, none⟩ = some (.int .i64 t.type.kind) ∧ W.cell? ⟨w.heap.size, 5, none⟩ = some (.slice l.ta l.tn l.tc) ∧ W.cell? ⟨w.heap.size, 6, none⟩ = some (.int .i64 t.res.kind) ∧ W.cell? ⟨w.heap.size, 7, none⟩ = some (.slice l.ra l.rn l.rc) ∧ W.cell? ⟨w.heap.size, 8, none⟩ = some (.slice (some ⟨b, off, none⟩) l.an l.ac)) ∧ (W.cell? ⟨b, off + j * 9, none⟩ = some (.int .i64 t.args[j].kind) ∧ W.cell? ⟨b, off + j * 9 + 1, none⟩ = some (.string t.args[j].name) ∧ W.cell? ⟨b, off + j * 9 + 2, none⟩ = some (.string t.args[j].other) ∧ W.cell? ⟨b, off + j * 9 + 3, none⟩ = some (.int .i64 t.args[j].n) ∧ W.cell? ⟨b, off + j * 9 + 4, none⟩ = some (.int .i64 t.args[j].type.kind) ∧ W.cell? ⟨b, off + j * 9 + 5, none⟩ = some (.slice l'.ta l'.tn l'.tc) ∧ W.cell? ⟨b, off + j * 9 + 6, none⟩ = some (.int .i64 t.args[j].res.kind) ∧ W.cell? ⟨b, off + j * 9 + 7, none⟩ = some (.slice l'.ra l'.rn l'.rc) ∧ W.cell? ⟨b, off + j * 9 + 8, none⟩ = some (.slice l'.aa l'.an l'.ac)))
            (first | exact ⟨⟨v0, v1, v2, v3, v4, v5, v6, v7, v8⟩, e0, e1, e2, e3, e4, e5, e6, e7, e8⟩ | exact ⟨B1.nine_at HA.out, c1.out.nine⟩ | exact ⟨B2.nine_at HA.out, c2.out.nine⟩)
            (first
              | (go_at_call 56; (with_reducible refine (CN.out _).mono ?_); rintro e w1 ⟨rfl, b1⟩
                 have B1 : Blk w1 _ _ _ := Blk.under (w := wr.drew) hB b1
                 have c1 := hide (hcd.out.below hltd b1)
                 have l1 := Nat.lt_of_lt_of_le hltd b1.size
                 have d1 := hdd.below b1
                 have k1 := hbd.trans (b1.mono hbd.size))
              | (go_at_call 26; (with_reducible refine (C.out _ d1).mono ?_); rintro e w2 ⟨rfl, b2⟩
                 have B2 := B1.under b2
                 have c2 := hide (c1.out.below l1 b2)
                 have k2 := k1.trans (b2.mono k1.size)))
          go_wp2_with fail
          go_ret
          exact ⟨ret_bool (by rw [hall.out, all_no hjx hq.out]), k2⟩
      · have h4 : l.an = t.args.length := hr.1
        obtain ⟨v0, v1, v2, v3, v4, v5, v6, v7, v8⟩ := hB.nine
        have hfin := hide (show lvOk t m = true by rw [hall.out]; exact all_yes fun i hi => HR.out i hi (by omega))
        clear h4
        go_wp2_with fail
        go_ret
        exact ⟨ret_bool hfin.out.symm, hb⟩
end Go.Proofs.YtklifieahcoljaaGreat

namespace Go.Proofs.YtklifieahcoljaaGreat
open Go.RowKit
set_option maxRecDepth 100000
set_option linter.unusedVariables false
set_option linter.unusedSimpArgs false

theorem lit_levelsOk (t : Tm) (l : Lt) (m : Int) (w : World) : Calls Tryz.prog 23 #[.agg #[.int .i64 t.kind, .string t.name, .string t.other, .int .i64 t.n, .int .i64 t.type.kind, .slice l.ta l.tn l.tc, .int .i64 t.res.kind, .slice l.ra l.rn l.rc, .slice l.aa l.an l.ac], .int .i64 m] w fun e w' => e = .returned (.bool (inB m 0 2)) ∧ Below w.heap.size w w' := by
  go_enter Tryz.func23, Tryz.ntmps23
  go_wp2_with (go_at_call 24; (with_reducible refine (within_any _ _ _ _).mono ?_); rintro e w1 ⟨rfl, rfl⟩)
  go_ret
  first | exact ⟨rfl, below_new _ _⟩ | exact ⟨rfl, Below.refl _ _⟩
theorem lit_levelsMade (t : Tm) (l : Lt) (m : Int) (w : World) : Calls Tryz.prog 32 #[.agg #[.int .i64 t.kind, .string t.name, .string t.other, .int .i64 t.n, .int .i64 t.type.kind, .slice l.ta l.tn l.tc, .int .i64 t.res.kind, .slice l.ra l.rn l.rc, .slice l.aa l.an l.ac], .int .i64 m] w fun e w' => e = .returned (.bool (unspliced t m)) ∧ Below w.heap.size w w' := by
  have hu : unspliced t m = ((t.kind != 11) || (m != 1)) := rfl
  cases hk : (t.kind != 11) with
  | true =>
    rw [hk] at hu
    replace hu := hide hu
    go_enter Tryz.func32, Tryz.ntmps32
    go_wp2_with fail
    all_goals go_ret
    all_goals exact ⟨ret_bool (by rw [hu.out]; rfl), below_new _ _⟩
  | false =>
    rw [hk] at hu
    replace hu := hide hu
    go_enter Tryz.func32, Tryz.ntmps32
    go_wp2_with fail
    all_goals go_ret
    all_goals exact ⟨ret_bool (by rw [hu.out]; simp), below_new _ _⟩
set_option maxHeartbeats 3200000 in
theorem levelsOk_any (t : Tm) : ∀ (l : Lt) (m : Int) (w : World), Md w t l → True →
    Calls Tryz.prog 22 #[.agg #[.int .i64 t.kind, .string t.name, .string t.other, .int .i64 t.n, .int .i64 t.type.kind, .slice l.ta l.tn l.tc, .int .i64 t.res.kind, .slice l.ra l.rn l.rc, .slice l.aa l.an l.ac], .int .i64 m, .func (.func 23) #[] #[]] w fun e w' => e = .returned (.bool (t.lv (fun _ k => inB k 0 2) m)) ∧ Below w.heap.size w w' := by
  induction t using Tm.ind' with | h t ih => ?_
  intro l m w h hH
  have IH := hide ih
  clear ih
  obtain ⟨-, -, -, hr⟩ := h.shape
  clear h
  have hn : l.an ≤ 9223372036854775807 := by obtain ⟨_, h2, h3, _⟩ := hr; unfold maxLen at h3; omega
  have hall := Tm.lv_eq (fun _ k => inB k 0 2) t m
  have CL := fun W => lit_levelsOk t l m W
  cases hp : inB m 0 2 with
  | false =>
    rw [hp] at CL
    simp only [hp, Bool.false_and] at hall
    replace hall := hide hall
    replace CL := hide CL
    clear hp
    go_enter Tryz.func22, Tryz.ntmps22
    go_wp2_with (go_at_call 23; (with_reducible refine (CL.out _).mono ?_); rintro e w1 ⟨rfl, b1⟩)
    go_ret
    exact ⟨ret_bool hall.out.symm, below_of_alloc b1⟩
  | true =>
    obtain ⟨m0, m2⟩ := inB_iff.1 hp
    rw [hp] at CL
    simp only [hp, Bool.true_and] at hall
    replace hall := hide hall
    replace CL := hide CL
    clear hp
    replace hH := hide hH
    go_enter Tryz.func22, Tryz.ntmps22
    go_wp2_with (go_at_call 23; (with_reducible refine (CL.out _).mono ?_); rintro e w1 ⟨rfl, b1⟩; have B1 := (Blk.new w _ _).under b1; obtain ⟨y0, y1, y2, y3, y4, y5, y6, y7, y8⟩ := B1.nine)
    go_loopw [17] (fun i wr => ∃ j : Nat, j ≤ l.an ∧ i = .int .i64 j ∧ Hid (∀ i (h : i < t.args.length), i < j → t.args[i].lv (fun _ k => inB k 0 2) (nextLv t.kind m) = true) ∧ Blk wr w.heap.size 29 #[.int .i64 t.kind, .string t.name, .string t.other, .int .i64 t.n, .int .i64 t.type.kind, .slice l.ta l.tn l.tc, .int .i64 t.res.kind, .slice l.ra l.rn l.rc, .slice l.aa l.an l.ac] ∧ Below w.heap.size w wr) (fun i _ => l.an - (intOf i).toNat)
    case atStart => exact ⟨0, by omega, rfl, fun i _ hi => by omega, B1, below_of_alloc b1⟩
    case round =>
      clear y0 y1 y2 y3 y4 y5 y6 y7 y8
      obtain ⟨j, hj, rfl, HR, hB, hb⟩ := hrel
      have hsz := hb.size
      by_cases hjn : j < l.an
      · have hjx : j < t.args.length := by rw [← hr.1]; exact hjn
        obtain ⟨b, off, l', ha, hlt, hc, hd⟩ := (hr.below hb).get j hjx
        obtain ⟨e0, e1, e2, e3, e4, e5, e6, e7, e8⟩ := hc.nine
        have X0 := Blk.new wr 29 #[.int .i64 t.args[j].kind, .string t.args[j].name, .string t.args[j].other, .int .i64 t.args[j].n, .int .i64 t.args[j].type.kind, .slice l'.ta l'.tn l'.tc, .int .i64 t.args[j].res.kind, .slice l'.ra l'.rn l'.rc, .slice l'.aa l'.an l'.ac]
        have O0 := hB.alloc (.cells #[.int .i64 t.args[j].kind, .string t.args[j].name, .string t.args[j].other, .int .i64 t.args[j].n, .int .i64 t.args[j].type.kind, .slice l'.ta l'.tn l'.tc, .int .i64 t.args[j].res.kind, .slice l'.ra l'.rn l'.rc, .slice l'.aa l'.an l'.ac] 29)
        obtain ⟨v0, v1, v2, v3, v4, v5, v6, v7, v8⟩ := O0.nine_at ha
        obtain ⟨x0, x1, x2, x3, x4, x5, x6, x7, x8⟩ := X0.nine
        have i0 : (0 : Int) ≤ (j : Int) := by omega
        have i1 : (j : Int) < (l.an : Int) := by omega
        have hdd : Md (wr.alloc (.cells #[.int .i64 t.args[j].kind, .string t.args[j].name, .string t.args[j].other, .int .i64 t.args[j].n, .int .i64 t.args[j].type.kind, .slice l'.ta l'.tn l'.tc, .int .i64 t.args[j].res.kind, .slice l'.ra l'.rn l'.rc, .slice l'.aa l'.an l'.ac] 29)).drew t.args[j] l' := (hd.below (below_new _ _)).below (below_drew _)
        have hbd : Below w.heap.size w (wr.alloc (.cells #[.int .i64 t.args[j].kind, .string t.args[j].name, .string t.args[j].other, .int .i64 t.args[j].n, .int .i64 t.args[j].type.kind, .slice l'.ta l'.tn l'.tc, .int .i64 t.args[j].res.kind, .slice l'.ra l'.rn l'.rc, .slice l'.aa l'.an l'.ac] 29)).drew := (hb.alloc hsz _).drew
        have CN := fun W => partLevel_any t l m W m0 m2
        rw [ha] at CN
        rw [ha]
        replace CN := hide CN
        have HA := hide ha
        clear ha hc
        cases hq : t.args[j].lv (fun _ k => inB k 0 2) (nextLv t.kind m) with
        | true =>
          have C := hide (fun W hW => IH.out _ (List.getElem_mem hjx) l' (nextLv t.kind m) W hW (by have hH := hH.out; exact trivial))
          rw [hq] at C
          replace hq := hide hq
          go_wp2_with fail
          go_region_held3 (fun W => (W.cell? ⟨w.heap.size, 0, none⟩ = some (.int .i64 t.kind) ∧ W.cell? ⟨w.heap.size, 1, none⟩ = some (.string t.name) ∧ W.cell? ⟨w.heap.size, 2, none⟩ = some (.string t.other) ∧ W.cell? ⟨w.heap.size, 3, none⟩ = some (.int .i64 t.n) ∧ W.cell? ⟨w.heap.size, 4, none⟩ = some (.int .i64 t.type.kind) ∧ W.cell? ⟨w.heap.size, 5, none⟩ = some (.slice l.ta l.tn l.tc) ∧ W.cell? ⟨w.heap.size, 6, none⟩ = some (.int .i64 t.res.kind) ∧ W.cell? ⟨w.heap.size, 7, none⟩ = some (.slice l.ra l.rn l.rc) ∧ W.cell? ⟨w.heap.size, 8, none⟩ = some (.slice (some ⟨b, off, none⟩) l.an l.ac)) ∧ (W.cell? ⟨wr.heap.size, 0, none⟩ = some (.int .i64 t.args[j].kind) ∧ W.cell? ⟨wr.heap.size, 1, none⟩ = some (.string t.args[j].name) ∧ W.cell? ⟨wr.heap.size, 2, none⟩ = some (.string t.args[j].other) ∧ W.cell? ⟨wr.heap.size, 3, none⟩ = some (.int .i64 t.args[j].n) ∧ W.cell? ⟨wr.heap.size, 4, none⟩ = some (.int .i64 t.args[j].type.kind) ∧ W.cell? ⟨wr.heap.size, 5, none⟩ = some (.slice l'.ta l'.tn l'.tc) ∧ W.cell? ⟨wr.heap.size, 6, none⟩ = some (.int .i64 t.args[j].res.kind) ∧ W.cell? ⟨wr.heap.size, 7, none⟩ = some (.slice l'.ra l'.rn l'.rc) ∧ W.cell? ⟨wr.heap.size, 8, none⟩ = some (.slice l'.aa l'.an l'.ac)))
            (first | exact ⟨⟨v0, v1, v2, v3, v4, v5, v6, v7, v8⟩, x0, x1, x2, x3, x4, x5, x6, x7, x8⟩ | exact ⟨O1.nine_at HA.out, X1.nine⟩ | exact ⟨O2.nine_at HA.out, X2.nine⟩)
            (first
              | (go_at_call 52; (with_reducible refine (CN.out _).mono ?_); rintro e w2 ⟨rfl, b2⟩
                 have O1 : Blk w2 _ _ _ := Blk.under (w := (wr.alloc (.cells #[.int .i64 t.args[j].kind, .string t.args[j].name, .string t.args[j].other, .int .i64 t.args[j].n, .int .i64 t.args[j].type.kind, .slice l'.ta l'.tn l'.tc, .int .i64 t.args[j].res.kind, .slice l'.ra l'.rn l'.rc, .slice l'.aa l'.an l'.ac] 29)).drew) O0 b2
                 have X1 : Blk w2 _ _ _ := Blk.under (w := (wr.alloc (.cells #[.int .i64 t.args[j].kind, .string t.args[j].name, .string t.args[j].other, .int .i64 t.args[j].n, .int .i64 t.args[j].type.kind, .slice l'.ta l'.tn l'.tc, .int .i64 t.args[j].res.kind, .slice l'.ra l'.rn l'.rc, .slice l'.aa l'.an l'.ac] 29)).drew) X0 b2
                 have d1 := hdd.below b2
                 have k1 := hbd.trans (b2.mono hbd.size))
              | (go_at_call 22; (with_reducible refine (C.out _ d1).mono ?_); rintro e w3 ⟨rfl, b3⟩
                 have O2 := O1.under b3
                 have X2 := X1.under b3
                 have k2 := k1.trans (b3.mono k1.size)))
          go_wp2_with fail
          go_roundw
          case rel =>
            refine ⟨j + 1, by omega, by go_num, fun i hi hij => ?_, (by first | exact O2 | (have := O2; rw [HA.out] at this; exact this)), k2⟩
            by_cases hij' : i < j
            · exact HR.out i hi hij'
            · obtain rfl : i = j := by omega
              exact hq.out
          case measure => simp [intOf]; omega
        | false =>
          have C := hide (fun W hW => IH.out _ (List.getElem_mem hjx) l' (nextLv t.kind m) W hW (by have hH := hH.out; exact trivial))
          rw [hq] at C
          replace hq := hide hq
          go_wp2_with fail
          go_region_held3 (fun W => (W.cell? ⟨w.heap.size, 0, none⟩ = some (.int .i64 t.kind) ∧ W.cell? ⟨w.heap.size, 1, none⟩ = some (.string t.name) ∧ W.cell? ⟨w.heap.size, 2, none⟩ = some (.string t.other) ∧ W.cell? ⟨w.heap.size, 3, none⟩ = some (.int .i64 t.n) ∧ W.cell? ⟨w.heap.size, 4, none⟩ = some (.int .i64 t.type.kind) ∧ W.cell? ⟨w.heap.size, 5, none⟩ = some (.slice l.ta l.tn l.tc) ∧ W.cell? ⟨w.heap.size, 6, none⟩ = some (.int .i64 t.res.kind) ∧ W.cell? ⟨w.heap.size, 7, none⟩ = some (.slice l.ra l.rn l.rc) ∧ W.cell? ⟨w.heap.size, 8, none⟩ = some (.slice (some ⟨b, off, none⟩) l.an l.ac)) ∧ (W.cell? ⟨wr.heap.size, 0, none⟩ = some (.int .i64 t.args[j].kind) ∧ W.cell? ⟨wr.heap.size, 1, none⟩ = some (.string t.args[j].name) ∧ W.cell? ⟨wr.heap.size, 2, none⟩ = some (.string t.args[j].other) ∧ W.cell? ⟨wr.heap.size, 3, none⟩ = some (.int .i64 t.args[j].n) ∧ W.cell? ⟨wr.heap.size, 4, none⟩ = some (.int .i64 t.args[j].type.kind) ∧ W.cell? ⟨wr.heap.size, 5, none⟩ = some (.slice l'.ta l'.tn l'.tc) ∧ W.cell? ⟨wr.heap.size, 6, none⟩ = some (.int .i64 t.args[j].res.kind) ∧ W.cell? ⟨wr.heap.size, 7, none⟩ = some (.slice l'.ra l'.rn l'.rc) ∧ W.cell? ⟨wr.heap.size, 8, none⟩ = some (.slice l'.aa l'.an l'.ac)))
            (first | exact ⟨⟨v0, v1, v2, v3, v4, v5, v6, v7, v8⟩, x0, x1, x2, x3, x4, x5, x6, x7, x8⟩ | exact ⟨O1.nine_at HA.out, X1.nine⟩ | exact ⟨O2.nine_at HA.out, X2.nine⟩)
            (first
              | (go_at_call 52; (with_reducible refine (CN.out _).mono ?_); rintro e w2 ⟨rfl, b2⟩
                 have O1 : Blk w2 _ _ _ := Blk.under (w := (wr.alloc (.cells #[.int .i64 t.args[j].kind, .string t.args[j].name, .string t.args[j].other, .int .i64 t.args[j].n, .int .i64 t.args[j].type.kind, .slice l'.ta l'.tn l'.tc, .int .i64 t.args[j].res.kind, .slice l'.ra l'.rn l'.rc, .slice l'.aa l'.an l'.ac] 29)).drew) O0 b2
                 have X1 : Blk w2 _ _ _ := Blk.under (w := (wr.alloc (.cells #[.int .i64 t.args[j].kind, .string t.args[j].name, .string t.args[j].other, .int .i64 t.args[j].n, .int .i64 t.args[j].type.kind, .slice l'.ta l'.tn l'.tc, .int .i64 t.args[j].res.kind, .slice l'.ra l'.rn l'.rc, .slice l'.aa l'.an l'.ac] 29)).drew) X0 b2
                 have d1 := hdd.below b2
                 have k1 := hbd.trans (b2.mono hbd.size))
              | (go_at_call 22; (with_reducible refine (C.out _ d1).mono ?_); rintro e w3 ⟨rfl, b3⟩
                 have O2 := O1.under b3
                 have X2 := X1.under b3
                 have k2 := k1.trans (b3.mono k1.size)))
          go_wp2_with fail
          go_ret
          exact ⟨ret_bool (by rw [hall.out, all_no hjx hq.out]), k2⟩
      · have h4 : l.an = t.args.length := hr.1
        have hfin := hide (show t.lv (fun _ k => inB k 0 2) m = true by rw [hall.out]; exact all_yes fun i hi => HR.out i hi (by omega))
        clear h4
        go_wp2_with fail
        go_ret
        exact ⟨ret_bool hfin.out.symm, hb⟩
set_option maxHeartbeats 3200000 in
theorem levelsMade_any (t : Tm) : ∀ (l : Lt) (m : Int) (w : World), Md w t l → lvOk t m = true →
    Calls Tryz.prog 22 #[.agg #[.int .i64 t.kind, .string t.name, .string t.other, .int .i64 t.n, .int .i64 t.type.kind, .slice l.ta l.tn l.tc, .int .i64 t.res.kind, .slice l.ra l.rn l.rc, .slice l.aa l.an l.ac], .int .i64 m, .func (.func 32) #[] #[]] w fun e w' => e = .returned (.bool (t.lv unspliced m)) ∧ Below w.heap.size w w' := by
  induction t using Tm.ind' with | h t ih => ?_
  intro l m w h hH
  have IH := hide ih
  clear ih
  obtain ⟨-, -, -, hr⟩ := h.shape
  clear h
  have hn : l.an ≤ 9223372036854775807 := by obtain ⟨_, h2, h3, _⟩ := hr; unfold maxLen at h3; omega
  have hall := Tm.lv_eq unspliced t m
  have CL := fun W => lit_levelsMade t l m W
  cases hp : unspliced t m with
  | false =>
    rw [hp] at CL
    simp only [hp, Bool.false_and] at hall
    replace hall := hide hall
    replace CL := hide CL
    clear hp
    go_enter Tryz.func22, Tryz.ntmps22
    go_wp2_with (go_at_call 32; (with_reducible refine (CL.out _).mono ?_); rintro e w1 ⟨rfl, b1⟩)
    go_ret
    exact ⟨ret_bool hall.out.symm, below_of_alloc b1⟩
  | true =>
    obtain ⟨m0, m2⟩ := lvOk_in hH
    rw [hp] at CL
    simp only [hp, Bool.true_and] at hall
    replace hall := hide hall
    replace CL := hide CL
    clear hp
    replace hH := hide hH
    go_enter Tryz.func22, Tryz.ntmps22
    go_wp2_with (go_at_call 32; (with_reducible refine (CL.out _).mono ?_); rintro e w1 ⟨rfl, b1⟩; have B1 := (Blk.new w _ _).under b1; obtain ⟨y0, y1, y2, y3, y4, y5, y6, y7, y8⟩ := B1.nine)
    go_loopw [17] (fun i wr => ∃ j : Nat, j ≤ l.an ∧ i = .int .i64 j ∧ Hid (∀ i (h : i < t.args.length), i < j → t.args[i].lv unspliced (nextLv t.kind m) = true) ∧ Blk wr w.heap.size 29 #[.int .i64 t.kind, .string t.name, .string t.other, .int .i64 t.n, .int .i64 t.type.kind, .slice l.ta l.tn l.tc, .int .i64 t.res.kind, .slice l.ra l.rn l.rc, .slice l.aa l.an l.ac] ∧ Below w.heap.size w wr) (fun i _ => l.an - (intOf i).toNat)
    case atStart => exact ⟨0, by omega, rfl, fun i _ hi => by omega, B1, below_of_alloc b1⟩
    case round =>
      clear y0 y1 y2 y3 y4 y5 y6 y7 y8
      obtain ⟨j, hj, rfl, HR, hB, hb⟩ := hrel
      have hsz := hb.size
      by_cases hjn : j < l.an
      · have hjx : j < t.args.length := by rw [← hr.1]; exact hjn
        obtain ⟨b, off, l', ha, hlt, hc, hd⟩ := (hr.below hb).get j hjx
        obtain ⟨e0, e1, e2, e3, e4, e5, e6, e7, e8⟩ := hc.nine
        have X0 := Blk.new wr 29 #[.int .i64 t.args[j].kind, .string t.args[j].name, .string t.args[j].other, .int .i64 t.args[j].n, .int .i64 t.args[j].type.kind, .slice l'.ta l'.tn l'.tc, .int .i64 t.args[j].res.kind, .slice l'.ra l'.rn l'.rc, .slice l'.aa l'.an l'.ac]
        have O0 := hB.alloc (.cells #[.int .i64 t.args[j].kind, .string t.args[j].name, .string t.args[j].other, .int .i64 t.args[j].n, .int .i64 t.args[j].type.kind, .slice l'.ta l'.tn l'.tc, .int .i64 t.args[j].res.kind, .slice l'.ra l'.rn l'.rc, .slice l'.aa l'.an l'.ac] 29)
        obtain ⟨v0, v1, v2, v3, v4, v5, v6, v7, v8⟩ := O0.nine_at ha
        obtain ⟨x0, x1, x2, x3, x4, x5, x6, x7, x8⟩ := X0.nine
        have i0 : (0 : Int) ≤ (j : Int) := by omega
        have i1 : (j : Int) < (l.an : Int) := by omega
        have hdd : Md (wr.alloc (.cells #[.int .i64 t.args[j].kind, .string t.args[j].name, .string t.args[j].other, .int .i64 t.args[j].n, .int .i64 t.args[j].type.kind, .slice l'.ta l'.tn l'.tc, .int .i64 t.args[j].res.kind, .slice l'.ra l'.rn l'.rc, .slice l'.aa l'.an l'.ac] 29)).drew t.args[j] l' := (hd.below (below_new _ _)).below (below_drew _)
        have hbd : Below w.heap.size w (wr.alloc (.cells #[.int .i64 t.args[j].kind, .string t.args[j].name, .string t.args[j].other, .int .i64 t.args[j].n, .int .i64 t.args[j].type.kind, .slice l'.ta l'.tn l'.tc, .int .i64 t.args[j].res.kind, .slice l'.ra l'.rn l'.rc, .slice l'.aa l'.an l'.ac] 29)).drew := (hb.alloc hsz _).drew
        have CN := fun W => partLevel_any t l m W m0 m2
        rw [ha] at CN
        rw [ha]
        replace CN := hide CN
        have HA := hide ha
        clear ha hc
        cases hq : t.args[j].lv unspliced (nextLv t.kind m) with
        | true =>
          have C := hide (fun W hW => IH.out _ (List.getElem_mem hjx) l' (nextLv t.kind m) W hW (by have hH := hH.out; exact (lvOk_arg hH (List.getElem_mem hjx))))
          rw [hq] at C
          replace hq := hide hq
          go_wp2_with fail
          go_region_held3 (fun W => (W.cell? ⟨w.heap.size, 0, none⟩ = some (.int .i64 t.kind) ∧ W.cell? ⟨w.heap.size, 1, none⟩ = some (.string t.name) ∧ W.cell? ⟨w.heap.size, 2, none⟩ = some (.string t.other) ∧ W.cell? ⟨w.heap.size, 3, none⟩ = some (.int .i64 t.n) ∧ W.cell? ⟨w.heap.size, 4, none⟩ = some (.int .i64 t.type.kind) ∧ W.cell? ⟨w.heap.size, 5, none⟩ = some (.slice l.ta l.tn l.tc) ∧ W.cell? ⟨w.heap.size, 6, none⟩ = some (.int .i64 t.res.kind) ∧ W.cell? ⟨w.heap.size, 7, none⟩ = some (.slice l.ra l.rn l.rc) ∧ W.cell? ⟨w.heap.size, 8, none⟩ = some (.slice (some ⟨b, off, none⟩) l.an l.ac)) ∧ (W.cell? ⟨wr.heap.size, 0, none⟩ = some (.int .i64 t.args[j].kind) ∧ W.cell? ⟨wr.heap.size, 1, none⟩ = some (.string t.args[j].name) ∧ W.cell? ⟨wr.heap.size, 2, none⟩ = some (.string t.args[j].other) ∧ W.cell? ⟨wr.heap.size, 3, none⟩ = some (.int .i64 t.args[j].n) ∧ W.cell? ⟨wr.heap.size, 4, none⟩ = some (.int .i64 t.args[j].type.kind) ∧ W.cell? ⟨wr.heap.size, 5, none⟩ = some (.slice l'.ta l'.tn l'.tc) ∧ W.cell? ⟨wr.heap.size, 6, none⟩ = some (.int .i64 t.args[j].res.kind) ∧ W.cell? ⟨wr.heap.size, 7, none⟩ = some (.slice l'.ra l'.rn l'.rc) ∧ W.cell? ⟨wr.heap.size, 8, none⟩ = some (.slice l'.aa l'.an l'.ac)))
            (first | exact ⟨⟨v0, v1, v2, v3, v4, v5, v6, v7, v8⟩, x0, x1, x2, x3, x4, x5, x6, x7, x8⟩ | exact ⟨O1.nine_at HA.out, X1.nine⟩ | exact ⟨O2.nine_at HA.out, X2.nine⟩)
            (first
              | (go_at_call 52; (with_reducible refine (CN.out _).mono ?_); rintro e w2 ⟨rfl, b2⟩
                 have O1 : Blk w2 _ _ _ := Blk.under (w := (wr.alloc (.cells #[.int .i64 t.args[j].kind, .string t.args[j].name, .string t.args[j].other, .int .i64 t.args[j].n, .int .i64 t.args[j].type.kind, .slice l'.ta l'.tn l'.tc, .int .i64 t.args[j].res.kind, .slice l'.ra l'.rn l'.rc, .slice l'.aa l'.an l'.ac] 29)).drew) O0 b2
                 have X1 : Blk w2 _ _ _ := Blk.under (w := (wr.alloc (.cells #[.int .i64 t.args[j].kind, .string t.args[j].name, .string t.args[j].other, .int .i64 t.args[j].n, .int .i64 t.args[j].type.kind, .slice l'.ta l'.tn l'.tc, .int .i64 t.args[j].res.kind, .slice l'.ra l'.rn l'.rc, .slice l'.aa l'.an l'.ac] 29)).drew) X0 b2
                 have d1 := hdd.below b2
                 have k1 := hbd.trans (b2.mono hbd.size))
              | (go_at_call 22; (with_reducible refine (C.out _ d1).mono ?_); rintro e w3 ⟨rfl, b3⟩
                 have O2 := O1.under b3
                 have X2 := X1.under b3
                 have k2 := k1.trans (b3.mono k1.size)))
          go_wp2_with fail
          go_roundw
          case rel =>
            refine ⟨j + 1, by omega, by go_num, fun i hi hij => ?_, (by first | exact O2 | (have := O2; rw [HA.out] at this; exact this)), k2⟩
            by_cases hij' : i < j
            · exact HR.out i hi hij'
            · obtain rfl : i = j := by omega
              exact hq.out
          case measure => simp [intOf]; omega
        | false =>
          have C := hide (fun W hW => IH.out _ (List.getElem_mem hjx) l' (nextLv t.kind m) W hW (by have hH := hH.out; exact (lvOk_arg hH (List.getElem_mem hjx))))
          rw [hq] at C
          replace hq := hide hq
          go_wp2_with fail
          go_region_held3 (fun W => (W.cell? ⟨w.heap.size, 0, none⟩ = some (.int .i64 t.kind) ∧ W.cell? ⟨w.heap.size, 1, none⟩ = some (.string t.name) ∧ W.cell? ⟨w.heap.size, 2, none⟩ = some (.string t.other) ∧ W.cell? ⟨w.heap.size, 3, none⟩ = some (.int .i64 t.n) ∧ W.cell? ⟨w.heap.size, 4, none⟩ = some (.int .i64 t.type.kind) ∧ W.cell? ⟨w.heap.size, 5, none⟩ = some (.slice l.ta l.tn l.tc) ∧ W.cell? ⟨w.heap.size, 6, none⟩ = some (.int .i64 t.res.kind) ∧ W.cell? ⟨w.heap.size, 7, none⟩ = some (.slice l.ra l.rn l.rc) ∧ W.cell? ⟨w.heap.size, 8, none⟩ = some (.slice (some ⟨b, off, none⟩) l.an l.ac)) ∧ (W.cell? ⟨wr.heap.size, 0, none⟩ = some (.int .i64 t.args[j].kind) ∧ W.cell? ⟨wr.heap.size, 1, none⟩ = some (.string t.args[j].name) ∧ W.cell? ⟨wr.heap.size, 2, none⟩ = some (.string t.args[j].other) ∧ W.cell? ⟨wr.heap.size, 3, none⟩ = some (.int .i64 t.args[j].n) ∧ W.cell? ⟨wr.heap.size, 4, none⟩ = some (.int .i64 t.args[j].type.kind) ∧ W.cell? ⟨wr.heap.size, 5, none⟩ = some (.slice l'.ta l'.tn l'.tc) ∧ W.cell? ⟨wr.heap.size, 6, none⟩ = some (.int .i64 t.args[j].res.kind) ∧ W.cell? ⟨wr.heap.size, 7, none⟩ = some (.slice l'.ra l'.rn l'.rc) ∧ W.cell? ⟨wr.heap.size, 8, none⟩ = some (.slice l'.aa l'.an l'.ac)))
            (first | exact ⟨⟨v0, v1, v2, v3, v4, v5, v6, v7, v8⟩, x0, x1, x2, x3, x4, x5, x6, x7, x8⟩ | exact ⟨O1.nine_at HA.out, X1.nine⟩ | exact ⟨O2.nine_at HA.out, X2.nine⟩)
            (first
              | (go_at_call 52; (with_reducible refine (CN.out _).mono ?_); rintro e w2 ⟨rfl, b2⟩
                 have O1 : Blk w2 _ _ _ := Blk.under (w := (wr.alloc (.cells #[.int .i64 t.args[j].kind, .string t.args[j].name, .string t.args[j].other, .int .i64 t.args[j].n, .int .i64 t.args[j].type.kind, .slice l'.ta l'.tn l'.tc, .int .i64 t.args[j].res.kind, .slice l'.ra l'.rn l'.rc, .slice l'.aa l'.an l'.ac] 29)).drew) O0 b2
                 have X1 : Blk w2 _ _ _ := Blk.under (w := (wr.alloc (.cells #[.int .i64 t.args[j].kind, .string t.args[j].name, .string t.args[j].other, .int .i64 t.args[j].n, .int .i64 t.args[j].type.kind, .slice l'.ta l'.tn l'.tc, .int .i64 t.args[j].res.kind, .slice l'.ra l'.rn l'.rc, .slice l'.aa l'.an l'.ac] 29)).drew) X0 b2
                 have d1 := hdd.below b2
                 have k1 := hbd.trans (b2.mono hbd.size))
              | (go_at_call 22; (with_reducible refine (C.out _ d1).mono ?_); rintro e w3 ⟨rfl, b3⟩
                 have O2 := O1.under b3
                 have X2 := X1.under b3
                 have k2 := k1.trans (b3.mono k1.size)))
          go_wp2_with fail
          go_ret
          exact ⟨ret_bool (by rw [hall.out, all_no hjx hq.out]), k2⟩
      · have h4 : l.an = t.args.length := hr.1
        have hfin := hide (show t.lv unspliced m = true by rw [hall.out]; exact all_yes fun i hi => HR.out i hi (by omega))
        clear h4
        go_wp2_with fail
        go_ret
        exact ⟨ret_bool hfin.out.symm, hb⟩
end Go.Proofs.YtklifieahcoljaaGreat

namespace Go.Proofs.YtklifieahcoljaaGreat
open Go.RowKit
set_option maxRecDepth 100000
set_option linter.unusedVariables false
set_option linter.unusedSimpArgs false

set_option maxHeartbeats 3200000 in
theorem l8Made_any (t : Tm) : ∀ (l : Lt) (m : Int) (w : World), Md w t l → lvOk t m = true →
    Calls Tryz.prog 33 #[.agg #[.int .i64 t.kind, .string t.name, .string t.other, .int .i64 t.n, .int .i64 t.type.kind, .slice l.ta l.tn l.tc, .int .i64 t.res.kind, .slice l.ra l.rn l.rc, .slice l.aa l.an l.ac], .int .i64 m] w fun e w' => e = .returned (.bool (lvMade t m)) ∧ Below w.heap.size w w' := by
  induction t using Tm.ind' with | h t ih => ?_
  intro l m w h hH
  have IH := hide ih
  clear ih
  obtain ⟨-, -, -, hr⟩ := h.shape
  clear h
  have hn : l.an ≤ 9223372036854775807 := by obtain ⟨_, h2, h3, _⟩ := hr; unfold maxLen at h3; omega
  have hall := lvMade_eq t m
  obtain ⟨m0, m2⟩ := lvOk_in hH
  replace hH := hide hH
  have hu : unspliced t m = ((t.kind != 11) || (m != 1)) := rfl
  by_cases hbad : t.kind = 11 ∧ m = 1
  · have gk := beq_iff_eq.2 hbad.1
    have gm := beq_iff_eq.2 hbad.2
    have hno := hide (show lvMade t m = false by rw [hall, hu]; simp [hbad.1, hbad.2])
    clear hbad hu hall
    go_enter Tryz.func33, Tryz.ntmps33
    go_wp2_with fail
    all_goals go_ret
    all_goals exact ⟨ret_bool hno.out.symm, below_new _ _⟩
  have hg : (t.kind == 11) = false ∨ (t.kind == 11) = true ∧ (m == 1) = false := by
    by_cases h1 : t.kind = 11
    · exact .inr ⟨beq_iff_eq.2 h1, beq_eq_false_iff_ne.2 fun h2 => hbad ⟨h1, h2⟩⟩
    · exact .inl (beq_eq_false_iff_ne.2 h1)
  have hy : unspliced t m = true := by
    rw [hu]
    by_cases h1 : t.kind = 11
    · have : m ≠ 1 := fun h2 => hbad ⟨h1, h2⟩
      simp [this]
    · simp [h1]
  rw [hy, Bool.true_and] at hall
  replace hall := hide hall
  clear hbad hu hy
  rcases hg with gk | ⟨gk, gm⟩
  all_goals
    go_enter Tryz.func33, Tryz.ntmps33
    go_wp2_with fail
    go_loopw [5] (fun i wr => ∃ j : Nat, j ≤ l.an ∧ i = .int .i64 j ∧ Hid (∀ i (h : i < t.args.length), i < j → lvMade t.args[i] (nextLv t.kind m) = true) ∧ Blk wr w.heap.size 29 #[.int .i64 t.kind, .string t.name, .string t.other, .int .i64 t.n, .int .i64 t.type.kind, .slice l.ta l.tn l.tc, .int .i64 t.res.kind, .slice l.ra l.rn l.rc, .slice l.aa l.an l.ac] ∧ Below w.heap.size w wr) (fun i _ => l.an - (intOf i).toNat)
    case atStart => exact ⟨0, by omega, rfl, fun i _ hi => by omega, Blk.new _ _ _, below_new _ _⟩
    case round =>
      obtain ⟨j, hj, rfl, HR, hB, hb⟩ := hrel
      have hsz := hb.size
      by_cases hjn : j < l.an
      · have hjx : j < t.args.length := by rw [← hr.1]; exact hjn
        obtain ⟨b, off, l', ha, hlt, hc, hd⟩ := (hr.below hb).get j hjx
        obtain ⟨e0, e1, e2, e3, e4, e5, e6, e7, e8⟩ := hc.nine
        obtain ⟨v0, v1, v2, v3, v4, v5, v6, v7, v8⟩ := hB.nine_at ha
        have i0 : (0 : Int) ≤ (j : Int) := by omega
        have i1 : (j : Int) < (l.an : Int) := by omega
        have hltd : b < wr.drew.heap.size := hlt
        have hcd : CellsAt wr.drew b (off + j * 9) (tcells t.args[j] l') := hc
        have hdd : Md wr.drew t.args[j] l' := hd.below (below_drew wr)
        have hbd : Below w.heap.size w wr.drew := hb.drew
        have CN := fun W => l8Next_any t l m W m0 m2
        rw [ha] at CN
        replace CN := hide CN
        have HA := hide ha
        replace hc := hide hc
        replace hcd := hide hcd
        clear ha
        cases hq : lvMade t.args[j] (nextLv t.kind m) with
        | true =>
          have C := hide (fun W hW => IH.out _ (List.getElem_mem hjx) l' (nextLv t.kind m) W hW (lvOk_arg hH.out (List.getElem_mem hjx)))
          rw [hq] at C
          replace hq := hide hq
          go_wp2_with fail
          go_region_held3 (fun W => (W.cell? ⟨w.heap.size, 0, none⟩ = some (.int .i64 t.kind) ∧ W.cell? ⟨w.heap.size, 1, none⟩ = some (.string t.name) ∧ W.cell? ⟨w.heap.size, 2, none⟩ = some (.string t.other) ∧ W.cell? ⟨w.heap.size, 3, none⟩ = some (.int .i64 t.n) ∧ W.cell? ⟨w.heap.size, 4, none⟩ = some (.int .i64 t.type.kind) ∧ W.cell? ⟨w.heap.size, 5, none⟩ = some (.slice l.ta l.tn l.tc) ∧ W.cell? ⟨w.heap.size, 6, none⟩ = some (.int .i64 t.res.kind) ∧ W.cell? ⟨w.heap.size, 7, none⟩ = some (.slice l.ra l.rn l.rc) ∧ W.cell? ⟨w.heap.size, 8, none⟩ = some (.slice (some ⟨b, off, none⟩) l.an l.ac)) ∧ (W.cell? ⟨b, off + j * 9, none⟩ = some (.int .i64 t.args[j].kind) ∧ W.cell? ⟨b, off + j * 9 + 1, none⟩ = some (.string t.args[j].name) ∧ W.cell? ⟨b, off + j * 9 + 2, none⟩ = some (.string t.args[j].other) ∧ W.cell? ⟨b, off + j * 9 + 3, none⟩ = some (.int .i64 t.args[j].n) ∧ W.cell? ⟨b, off + j * 9 + 4, none⟩ = some (.int .i64 t.args[j].type.kind) ∧ W.cell? ⟨b, off + j * 9 + 5, none⟩ = some (.slice l'.ta l'.tn l'.tc) ∧ W.cell? ⟨b, off + j * 9 + 6, none⟩ = some (.int .i64 t.args[j].res.kind) ∧ W.cell? ⟨b, off + j * 9 + 7, none⟩ = some (.slice l'.ra l'.rn l'.rc) ∧ W.cell? ⟨b, off + j * 9 + 8, none⟩ = some (.slice l'.aa l'.an l'.ac)))
            (first | exact ⟨⟨v0, v1, v2, v3, v4, v5, v6, v7, v8⟩, e0, e1, e2, e3, e4, e5, e6, e7, e8⟩ | exact ⟨B1.nine_at HA.out, c1.out.nine⟩ | exact ⟨B2.nine_at HA.out, c2.out.nine⟩)
            (first
              | (go_at_call 56; (with_reducible refine (CN.out _).mono ?_); rintro e w1 ⟨rfl, b1⟩
                 have B1 : Blk w1 _ _ _ := Blk.under (w := wr.drew) hB b1
                 have c1 := hide (hcd.out.below hltd b1)
                 have l1 := Nat.lt_of_lt_of_le hltd b1.size
                 have d1 := hdd.below b1
                 have k1 := hbd.trans (b1.mono hbd.size))
              | (go_at_call 33; (with_reducible refine (C.out _ d1).mono ?_); rintro e w2 ⟨rfl, b2⟩
                 have B2 := B1.under b2
                 have c2 := hide (c1.out.below l1 b2)
                 have k2 := k1.trans (b2.mono k1.size)))
          go_wp2_with fail
          go_roundw
          case rel =>
            refine ⟨j + 1, by omega, by go_num, fun i hi hij => ?_, (by first | exact B2 | (have := B2; rw [HA.out] at this; exact this)), k2⟩
            by_cases hij' : i < j
            · exact HR.out i hi hij'
            · obtain rfl : i = j := by omega
              exact hq.out
          case measure => simp [intOf]; omega
        | false =>
          have C := hide (fun W hW => IH.out _ (List.getElem_mem hjx) l' (nextLv t.kind m) W hW (lvOk_arg hH.out (List.getElem_mem hjx)))
          rw [hq] at C
          replace hq := hide hq
          go_wp2_with fail
          go_region_held3 (fun W => (W.cell? ⟨w.heap.size, 0, none⟩ = some (.int .i64 t.kind) ∧ W.cell? ⟨w.heap.size, 1, none⟩ = some (.string t.name) ∧ W.cell? ⟨w.heap.size, 2, none⟩ = some (.string t.other) ∧ W.cell? ⟨w.heap.size, 3, none⟩ = some (.int .i64 t.n) ∧ W.cell? ⟨w.heap.size, 4, none⟩ = some (.int .i64 t.type.kind) ∧ W.cell? ⟨w.heap.size, 5, none⟩ = some (.slice l.ta l.tn l.tc) ∧ W.cell? ⟨w.heap.size, 6, none⟩ = some (.int .i64 t.res.kind) ∧ W.cell? ⟨w.heap.size, 7, none⟩ = some (.slice l.ra l.rn l.rc) ∧ W.cell? ⟨w.heap.size, 8, none⟩ = some (.slice (some ⟨b, off, none⟩) l.an l.ac)) ∧ (W.cell? ⟨b, off + j * 9, none⟩ = some (.int .i64 t.args[j].kind) ∧ W.cell? ⟨b, off + j * 9 + 1, none⟩ = some (.string t.args[j].name) ∧ W.cell? ⟨b, off + j * 9 + 2, none⟩ = some (.string t.args[j].other) ∧ W.cell? ⟨b, off + j * 9 + 3, none⟩ = some (.int .i64 t.args[j].n) ∧ W.cell? ⟨b, off + j * 9 + 4, none⟩ = some (.int .i64 t.args[j].type.kind) ∧ W.cell? ⟨b, off + j * 9 + 5, none⟩ = some (.slice l'.ta l'.tn l'.tc) ∧ W.cell? ⟨b, off + j * 9 + 6, none⟩ = some (.int .i64 t.args[j].res.kind) ∧ W.cell? ⟨b, off + j * 9 + 7, none⟩ = some (.slice l'.ra l'.rn l'.rc) ∧ W.cell? ⟨b, off + j * 9 + 8, none⟩ = some (.slice l'.aa l'.an l'.ac)))
            (first | exact ⟨⟨v0, v1, v2, v3, v4, v5, v6, v7, v8⟩, e0, e1, e2, e3, e4, e5, e6, e7, e8⟩ | exact ⟨B1.nine_at HA.out, c1.out.nine⟩ | exact ⟨B2.nine_at HA.out, c2.out.nine⟩)
            (first
              | (go_at_call 56; (with_reducible refine (CN.out _).mono ?_); rintro e w1 ⟨rfl, b1⟩
                 have B1 : Blk w1 _ _ _ := Blk.under (w := wr.drew) hB b1
                 have c1 := hide (hcd.out.below hltd b1)
                 have l1 := Nat.lt_of_lt_of_le hltd b1.size
                 have d1 := hdd.below b1
                 have k1 := hbd.trans (b1.mono hbd.size))
              | (go_at_call 33; (with_reducible refine (C.out _ d1).mono ?_); rintro e w2 ⟨rfl, b2⟩
                 have B2 := B1.under b2
                 have c2 := hide (c1.out.below l1 b2)
                 have k2 := k1.trans (b2.mono k1.size)))
          go_wp2_with fail
          go_ret
          exact ⟨ret_bool (by rw [hall.out, all_no hjx hq.out]), k2⟩
      · have h4 : l.an = t.args.length := hr.1
        obtain ⟨v0, v1, v2, v3, v4, v5, v6, v7, v8⟩ := hB.nine
        have hfin := hide (show lvMade t m = true by rw [hall.out]; exact all_yes fun i hi => HR.out i hi (by omega))
        clear h4
        go_wp2_with fail
        go_ret
        exact ⟨ret_bool hfin.out.symm, hb⟩

/-- The levels are right, and the term is one. -/
def Tm.levelsOk (t : Tm) (m : Int) : Bool := t.ok && lvOk t m
def Tm.generated (t : Tm) (m : Int) : Bool := t.levelsOk m && lvMade t m

set_option maxHeartbeats 800000 in
theorem specLevelsOk_any (t : Tm) (l : Lt) (m : Int) (w : World) (h : Md w t l) (hw : t.wt ≤ 1048576) :
    Calls Tryz.prog 7 #[.agg #[.int .i64 t.kind, .string t.name, .string t.other, .int .i64 t.n, .int .i64 t.type.kind, .slice l.ta l.tn l.tc, .int .i64 t.res.kind, .slice l.ra l.rn l.rc, .slice l.aa l.an l.ac], .int .i64 m] w fun e w' => e = .returned (.bool (t.levelsOk m)) ∧ Below w.heap.size w w' := by
  have h1 : Md (w.alloc (.cells #[.int .i64 t.kind, .string t.name, .string t.other, .int .i64 t.n, .int .i64 t.type.kind, .slice l.ta l.tn l.tc, .int .i64 t.res.kind, .slice l.ra l.rn l.rc, .slice l.aa l.an l.ac] 29)) t l := h.below (below_new _ _)
  have hv : t.levelsOk m = (t.ok && lvOk t m) := rfl
  cases ho : t.ok with
  | false =>
    have C := specIsTerm_any t l _ h1 hw
    rw [ho] at C hv
    replace C := hide C
    replace hv := hide hv
    clear ho
    go_enter Tryz.func7, Tryz.ntmps7
    go_wp2_with (go_at_call 25; (with_reducible refine C.out.mono ?_); rintro e w1 ⟨rfl, b1⟩)
    go_ret
    exact ⟨ret_bool (by rw [hv.out]; rfl), below_of_alloc b1⟩
  | true =>
    have C := specIsTerm_any t l _ h1 hw
    rw [ho] at C hv
    replace C := hide C
    replace hv := hide hv
    clear ho
    go_enter Tryz.func7, Tryz.ntmps7
    go_wp2_with (first
      | (go_at_call 25; (with_reducible refine C.out.mono ?_); rintro e w1 ⟨rfl, b1⟩
         have B1 := (Blk.new w _ _).under b1
         have h2 := h1.below b1
         obtain ⟨u0, u1, u2, u3, u4, u5, u6, u7, u8⟩ := B1.nine)
      | (go_at_call 26; (with_reducible refine (l8Ok_any t l m _ h2).mono ?_); rintro e w2 ⟨rfl, b2⟩))
    go_ret
    exact ⟨ret_bool (by rw [hv.out]; rfl), below_next (below_of_alloc b1) b2⟩
set_option maxHeartbeats 800000 in
theorem implLevelsOk_any (t : Tm) (l : Lt) (m : Int) (w : World) (h : Md w t l) (hw : t.wt ≤ 1048576) :
    Calls Tryz.prog 6 #[.agg #[.int .i64 t.kind, .string t.name, .string t.other, .int .i64 t.n, .int .i64 t.type.kind, .slice l.ta l.tn l.tc, .int .i64 t.res.kind, .slice l.ra l.rn l.rc, .slice l.aa l.an l.ac], .int .i64 m] w fun e w' => e = .returned (.bool (t.levelsOk m)) ∧ Below w.heap.size w w' := by
  have h1 : Md (w.alloc (.cells #[.int .i64 t.kind, .string t.name, .string t.other, .int .i64 t.n, .int .i64 t.type.kind, .slice l.ta l.tn l.tc, .int .i64 t.res.kind, .slice l.ra l.rn l.rc, .slice l.aa l.an l.ac] 29)) t l := h.below (below_new _ _)
  have hv : t.levelsOk m = (t.ok && lvOk t m) := rfl
  cases ho : t.ok with
  | false =>
    have C := implIsTerm_any t l _ h1 hw
    rw [ho] at C hv
    replace C := hide C
    replace hv := hide hv
    clear ho
    go_enter Tryz.func6, Tryz.ntmps6
    go_wp2_with (go_at_call 21; (with_reducible refine C.out.mono ?_); rintro e w1 ⟨rfl, b1⟩)
    go_ret
    exact ⟨ret_bool (by rw [hv.out]; rfl), below_of_alloc b1⟩
  | true =>
    have C := implIsTerm_any t l _ h1 hw
    rw [ho] at C hv
    replace C := hide C
    replace hv := hide hv
    clear ho
    go_enter Tryz.func6, Tryz.ntmps6
    go_wp2_with (first
      | (go_at_call 21; (with_reducible refine C.out.mono ?_); rintro e w1 ⟨rfl, b1⟩
         have B1 := (Blk.new w _ _).under b1
         have h2 := h1.below b1
         obtain ⟨u0, u1, u2, u3, u4, u5, u6, u7, u8⟩ := B1.nine)
      | (go_at_call 22; (with_reducible refine (levelsOk_any t l m _ h2 trivial).mono ?_); rintro e w2 ⟨rfl, b2⟩))
    go_ret
    exact ⟨ret_bool (by rw [hv.out]; rfl), below_next (below_of_alloc b1) b2⟩
set_option maxHeartbeats 800000 in
theorem specIsGenerated_any (t : Tm) (l : Lt) (m : Int) (w : World) (h : Md w t l) (hw : t.wt ≤ 1048576) :
    Calls Tryz.prog 11 #[.agg #[.int .i64 t.kind, .string t.name, .string t.other, .int .i64 t.n, .int .i64 t.type.kind, .slice l.ta l.tn l.tc, .int .i64 t.res.kind, .slice l.ra l.rn l.rc, .slice l.aa l.an l.ac], .int .i64 m] w fun e w' => e = .returned (.bool (t.generated m)) ∧ Below w.heap.size w w' := by
  have h1 : Md (w.alloc (.cells #[.int .i64 t.kind, .string t.name, .string t.other, .int .i64 t.n, .int .i64 t.type.kind, .slice l.ta l.tn l.tc, .int .i64 t.res.kind, .slice l.ra l.rn l.rc, .slice l.aa l.an l.ac] 29)) t l := h.below (below_new _ _)
  have hv : t.generated m = (t.levelsOk m && lvMade t m) := rfl
  cases ho : t.levelsOk m with
  | false =>
    have C := specLevelsOk_any t l m _ h1 hw
    rw [ho] at C hv
    replace C := hide C
    replace hv := hide hv
    clear ho
    go_enter Tryz.func11, Tryz.ntmps11
    go_wp2_with (go_at_call 7; (with_reducible refine C.out.mono ?_); rintro e w1 ⟨rfl, b1⟩)
    go_ret
    exact ⟨ret_bool (by rw [hv.out]; rfl), below_of_alloc b1⟩
  | true =>
    have C := specLevelsOk_any t l m _ h1 hw
    have hl : lvOk t m = true := by
      rw [Tm.levelsOk, Bool.and_eq_true] at ho
      exact ho.2
    rw [ho] at C hv
    replace C := hide C
    replace hv := hide hv
    clear ho
    go_enter Tryz.func11, Tryz.ntmps11
    go_wp2_with (first
      | (go_at_call 7; (with_reducible refine C.out.mono ?_); rintro e w1 ⟨rfl, b1⟩
         have B1 := (Blk.new w _ _).under b1
         have h2 := h1.below b1
         obtain ⟨u0, u1, u2, u3, u4, u5, u6, u7, u8⟩ := B1.nine)
      | (go_at_call 33; (with_reducible refine (l8Made_any t l m _ h2 hl).mono ?_); rintro e w2 ⟨rfl, b2⟩))
    go_ret
    exact ⟨ret_bool (by rw [hv.out]; rfl), below_next (below_of_alloc b1) b2⟩
set_option maxHeartbeats 800000 in
theorem implIsGenerated_any (t : Tm) (l : Lt) (m : Int) (w : World) (h : Md w t l) (hw : t.wt ≤ 1048576) :
    Calls Tryz.prog 10 #[.agg #[.int .i64 t.kind, .string t.name, .string t.other, .int .i64 t.n, .int .i64 t.type.kind, .slice l.ta l.tn l.tc, .int .i64 t.res.kind, .slice l.ra l.rn l.rc, .slice l.aa l.an l.ac], .int .i64 m] w fun e w' => e = .returned (.bool (t.generated m)) ∧ Below w.heap.size w w' := by
  have h1 : Md (w.alloc (.cells #[.int .i64 t.kind, .string t.name, .string t.other, .int .i64 t.n, .int .i64 t.type.kind, .slice l.ta l.tn l.tc, .int .i64 t.res.kind, .slice l.ra l.rn l.rc, .slice l.aa l.an l.ac] 29)) t l := h.below (below_new _ _)
  have hv : t.generated m = (t.levelsOk m && lvMade t m) := rfl
  cases ho : t.levelsOk m with
  | false =>
    have C := implLevelsOk_any t l m _ h1 hw
    rw [ho] at C hv
    replace C := hide C
    replace hv := hide hv
    clear ho
    go_enter Tryz.func10, Tryz.ntmps10
    go_wp2_with (go_at_call 6; (with_reducible refine C.out.mono ?_); rintro e w1 ⟨rfl, b1⟩)
    go_ret
    exact ⟨ret_bool (by rw [hv.out]; rfl), below_of_alloc b1⟩
  | true =>
    have C := implLevelsOk_any t l m _ h1 hw
    have hl : lvOk t m = true := by
      rw [Tm.levelsOk, Bool.and_eq_true] at ho
      exact ho.2
    rw [ho] at C hv
    replace C := hide C
    replace hv := hide hv
    clear ho
    go_enter Tryz.func10, Tryz.ntmps10
    go_wp2_with (first
      | (go_at_call 6; (with_reducible refine C.out.mono ?_); rintro e w1 ⟨rfl, b1⟩
         have B1 := (Blk.new w _ _).under b1
         have h2 := h1.below b1
         obtain ⟨u0, u1, u2, u3, u4, u5, u6, u7, u8⟩ := B1.nine)
      | (go_at_call 22; (with_reducible refine (levelsMade_any t l m _ h2 hl).mono ?_); rintro e w2 ⟨rfl, b2⟩))
    go_ret
    exact ⟨ret_bool (by rw [hv.out]; rfl), below_next (below_of_alloc b1) b2⟩
end Go.Proofs.YtklifieahcoljaaGreat

namespace Go.Proofs.YtklifieahcoljaaGreat
open Go.RowKit
set_option maxRecDepth 100000
set_option linter.unusedVariables false
set_option linter.unusedSimpArgs false

set_option maxHeartbeats 3200000 in
theorem l8Highest_any (t : Tm) : ∀ (l : Lt) (m : Int) (w : World), Md w t l → lvOk t m = true →
    Calls Tryz.prog 38 #[.agg #[.int .i64 t.kind, .string t.name, .string t.other, .int .i64 t.n, .int .i64 t.type.kind, .slice l.ta l.tn l.tc, .int .i64 t.res.kind, .slice l.ra l.rn l.rc, .slice l.aa l.an l.ac], .int .i64 m] w fun e w' => e = .returned (.int .i64 (t.hi m)) ∧ Below w.heap.size w w' := by
  induction t using Tm.ind' with | h t ih => ?_
  intro l m w h hH
  have IH := hide ih
  clear ih
  obtain ⟨-, -, -, hr⟩ := h.shape
  clear h
  have hn : l.an ≤ 9223372036854775807 := by obtain ⟨_, h2, h3, _⟩ := hr; unfold maxLen at h3; omega
  obtain ⟨m0, m2⟩ := lvOk_in hH
  replace hH := hide hH
  have hhi := hide (t.hi_eq m)
  go_enter Tryz.func38, Tryz.ntmps38
  go_wp2_with fail
  go_loopw [5, 6] (fun s i wr => ∃ j : Nat, j ≤ l.an ∧ i = .int .i64 j ∧ (∃ q : Int, s = .int .i64 q ∧ 0 ≤ q ∧ q ≤ 2 ∧ Hid (q = Tm.his (t.args.take j) (nextLv t.kind m) m)) ∧ Blk wr w.heap.size 29 #[.int .i64 t.kind, .string t.name, .string t.other, .int .i64 t.n, .int .i64 t.type.kind, .slice l.ta l.tn l.tc, .int .i64 t.res.kind, .slice l.ra l.rn l.rc, .slice l.aa l.an l.ac] ∧ Below w.heap.size w wr) (fun _ i _ => l.an - (intOf i).toNat)
  case atStart => exact ⟨0, by omega, rfl, ⟨m, rfl, m0, m2, by simp [Hid, Tm.his]⟩, Blk.new _ _ _, below_new _ _⟩
  case round =>
    obtain ⟨j, hj, rfl, ⟨q, rfl, q0, q2, Hq⟩, hB, hb⟩ := hrel
    have hsz := hb.size
    by_cases hjn : j < l.an
    · have hjx : j < t.args.length := by rw [← hr.1]; exact hjn
      obtain ⟨b, off, l', ha, hlt, hc, hd⟩ := (hr.below hb).get j hjx
      obtain ⟨e0, e1, e2, e3, e4, e5, e6, e7, e8⟩ := hc.nine
      obtain ⟨v0, v1, v2, v3, v4, v5, v6, v7, v8⟩ := hB.nine_at ha
      have i0 : (0 : Int) ≤ (j : Int) := by omega
      have i1 : (j : Int) < (l.an : Int) := by omega
      have hltd : b < wr.drew.heap.size := hlt
      have hcd : CellsAt wr.drew b (off + j * 9) (tcells t.args[j] l') := hc
      have hdd : Md wr.drew t.args[j] l' := hd.below (below_drew wr)
      have hbd : Below w.heap.size w wr.drew := hb.drew
      have CN := fun W => l8Next_any t l m W m0 m2
      rw [ha] at CN
      replace CN := hide CN
      have hH1 := lvOk_arg hH.out (List.getElem_mem hjx)
      have C := hide (fun W hW => IH.out _ (List.getElem_mem hjx) l' (nextLv t.kind m) W hW hH1)
      have hhin := Tm.hi_in t.args[j] _ hH1
      replace hH1 := hide hH1
      have HA := hide ha
      replace hc := hide hc
      replace hcd := hide hcd
      clear ha
      go_wp2_with fail
      go_region_held3 (fun W => (W.cell? ⟨w.heap.size, 0, none⟩ = some (.int .i64 t.kind) ∧ W.cell? ⟨w.heap.size, 1, none⟩ = some (.string t.name) ∧ W.cell? ⟨w.heap.size, 2, none⟩ = some (.string t.other) ∧ W.cell? ⟨w.heap.size, 3, none⟩ = some (.int .i64 t.n) ∧ W.cell? ⟨w.heap.size, 4, none⟩ = some (.int .i64 t.type.kind) ∧ W.cell? ⟨w.heap.size, 5, none⟩ = some (.slice l.ta l.tn l.tc) ∧ W.cell? ⟨w.heap.size, 6, none⟩ = some (.int .i64 t.res.kind) ∧ W.cell? ⟨w.heap.size, 7, none⟩ = some (.slice l.ra l.rn l.rc) ∧ W.cell? ⟨w.heap.size, 8, none⟩ = some (.slice (some ⟨b, off, none⟩) l.an l.ac)) ∧ (W.cell? ⟨b, off + j * 9, none⟩ = some (.int .i64 t.args[j].kind) ∧ W.cell? ⟨b, off + j * 9 + 1, none⟩ = some (.string t.args[j].name) ∧ W.cell? ⟨b, off + j * 9 + 2, none⟩ = some (.string t.args[j].other) ∧ W.cell? ⟨b, off + j * 9 + 3, none⟩ = some (.int .i64 t.args[j].n) ∧ W.cell? ⟨b, off + j * 9 + 4, none⟩ = some (.int .i64 t.args[j].type.kind) ∧ W.cell? ⟨b, off + j * 9 + 5, none⟩ = some (.slice l'.ta l'.tn l'.tc) ∧ W.cell? ⟨b, off + j * 9 + 6, none⟩ = some (.int .i64 t.args[j].res.kind) ∧ W.cell? ⟨b, off + j * 9 + 7, none⟩ = some (.slice l'.ra l'.rn l'.rc) ∧ W.cell? ⟨b, off + j * 9 + 8, none⟩ = some (.slice l'.aa l'.an l'.ac)))
        (first | exact ⟨⟨v0, v1, v2, v3, v4, v5, v6, v7, v8⟩, e0, e1, e2, e3, e4, e5, e6, e7, e8⟩ | exact ⟨B1.nine_at HA.out, c1.out.nine⟩ | exact ⟨B2.nine_at HA.out, c2.out.nine⟩)
        (first
          | (go_at_call 56; (with_reducible refine (CN.out _).mono ?_); rintro e w1 ⟨rfl, b1⟩
             have B1 : Blk w1 _ _ _ := Blk.under (w := wr.drew) hB b1
             have c1 := hide (hcd.out.below hltd b1)
             have l1 := Nat.lt_of_lt_of_le hltd b1.size
             have d1 := hdd.below b1
             have k1 := hbd.trans (b1.mono hbd.size))
          | (go_at_call 38; (with_reducible refine (C.out _ d1).mono ?_); rintro e w2 ⟨rfl, b2⟩
             have B2 := B1.under b2
             have c2 := hide (c1.out.below l1 b2)
             have k2 := k1.trans (b2.mono k1.size))
          | (go_at_call 64; (with_reducible refine (l1Max_any _ _ _).mono ?_); rintro e w3 ⟨rfl, rfl⟩))
      go_wp2_with fail
      go_roundw
      case rel =>
        refine ⟨j + 1, by omega, by go_num, ⟨_, rfl, by omega, by omega, ?_⟩, (by first | exact B2 | (have := B2; rw [HA.out] at this; exact this)), k2⟩
        rw [Hq.out, Hid, Tm.his_take t.args _ _ j hjx]
      case measure => simp [intOf]; omega
    · obtain ⟨v0, v1, v2, v3, v4, v5, v6, v7, v8⟩ := hB.nine
      go_wp2_with fail
      go_ret
      refine ⟨ret_int ?_, hb⟩
      have h3 := Hq.out
      have h4 : l.an = t.args.length := hr.1
      rw [List.take_of_length_le (by omega)] at h3
      rw [hhi.out]
      exact h3

set_option maxHeartbeats 800000 in
theorem specHighestLevel_any (t : Tm) (l : Lt) (w : World) (h : Md w t l) (hw : t.wt ≤ 1048576) :
    Calls Tryz.prog 15 #[.agg #[.int .i64 t.kind, .string t.name, .string t.other, .int .i64 t.n, .int .i64 t.type.kind, .slice l.ta l.tn l.tc, .int .i64 t.res.kind, .slice l.ra l.rn l.rc, .slice l.aa l.an l.ac]] w fun e w' => e = .returned (.int .i64 (if t.levelsOk 0 then t.hi 0 else -1)) ∧ Below w.heap.size w w' := by
  have h1 : Md (w.alloc (.cells #[.int .i64 t.kind, .string t.name, .string t.other, .int .i64 t.n, .int .i64 t.type.kind, .slice l.ta l.tn l.tc, .int .i64 t.res.kind, .slice l.ra l.rn l.rc, .slice l.aa l.an l.ac] 29)) t l := h.below (below_new _ _)
  have C := specLevelsOk_any t l 0 _ h1 hw
  cases ho : t.levelsOk 0 with
  | false =>
    rw [ho] at C
    replace C := hide C
    clear ho
    go_enter Tryz.func15, Tryz.ntmps15
    go_wp2_with (go_at_call 7; (with_reducible refine C.out.mono ?_); rintro e w1 ⟨rfl, b1⟩)
    go_ret
    exact ⟨rfl, below_of_alloc b1⟩
  | true =>
    have hl : lvOk t 0 = true := by
      rw [Tm.levelsOk, Bool.and_eq_true] at ho
      exact ho.2
    rw [ho] at C
    replace C := hide C
    clear ho
    go_enter Tryz.func15, Tryz.ntmps15
    go_wp2_with (first
      | (go_at_call 7; (with_reducible refine C.out.mono ?_); rintro e w1 ⟨rfl, b1⟩
         have B1 := (Blk.new w _ _).under b1
         have h2 := h1.below b1
         obtain ⟨u0, u1, u2, u3, u4, u5, u6, u7, u8⟩ := B1.nine)
      | (go_at_call 38; (with_reducible refine (l8Highest_any t l 0 _ h2 hl).mono ?_); rintro e w2 ⟨rfl, b2⟩))
    go_ret
    exact ⟨rfl, below_next (below_of_alloc b1) b2⟩

/-! ### The program's side -/
/-- Letters that read as a term, by blocks among which bx is not. -/
def MdX (w : World) (bx : Nat) (t : Tm) (l : Lt) : Prop := ∃ fp, RM w t l fp ∧ bx ∉ fp
theorem MdX.wrote {w w' : World} {bx : Nat} {t : Tm} {l : Lt} (h : MdX w bx t l) (hb : Wrote [bx] w w') : MdX w' bx t l := by
  obtain ⟨fp, h, hn⟩ := h
  exact ⟨fp, RM.keep t l fp h fun b hbf => hb.same (RM.lt t l fp h b hbf) (by simp; rintro rfl; exact hn hbf), hn⟩
theorem MdX.get {w : World} {bx : Nat} {t : Tm} {l : Lt} (h : MdX w bx t l) : l.an = t.args.length ∧ l.an ≤ 9223372036854775807 ∧ ∀ i (hi : i < t.args.length),
    ∃ b off l', l.aa = some ⟨b, off, none⟩ ∧ b < w.heap.size ∧ b ≠ bx ∧ CellsAt w b (off + i * 9) (tcells t.args[i] l') ∧ MdX w bx t.args[i] l' := by
  obtain ⟨fp, h, hn⟩ := h
  obtain ⟨k, nm, ot, n, ty, re, xs⟩ := t
  rw [RM] at h
  obtain ⟨-, ⟨h1, h2, h3⟩, f1, f2, f3, rfl, -, -, h⟩ := h
  refine ⟨h1, by unfold maxLen at h3; omega, fun i hi => ?_⟩
  rcases h with ⟨rfl, _⟩ | ⟨_, b, off, fps, ha, rfl, hs⟩
  · simp at hi
  · obtain ⟨l', f, e0, ht, hf⟩ := RMs_get hs i hi
    exact ⟨b, off, l', ha, lt_of_cell (e0 0 _ rfl), fun e => hn (by subst e; simp), e0, f, ht, fun hb => hn (by simp [hf _ hb])⟩
theorem CellsAt.wrote {w w' : World} {b off bx : Nat} {vs : List Value} (h : CellsAt w b off vs) (hl : b < w.heap.size) (hne : b ≠ bx) (hb : Wrote [bx] w w') : CellsAt w' b off vs :=
  h.keep fun o _ _ => hb.same hl (by simpa using hne) o
theorem Blk.wrote {w w' : World} {g T bx : Nat} {cs : Array Value} (h : Blk w g T cs) (hne : g ≠ bx) (hb : Wrote [bx] w w') : Blk w' g T cs := (hb.block g h.lt (by simpa using hne)).trans h

set_option maxHeartbeats 800000 in
theorem lit_highest (t : Tm) (l : Lt) (m v : Int) (bx : Nat) (w : World) (hx : Blk w bx 3 #[.int .i64 v]) :
    Calls Tryz.prog 37 #[.agg #[.int .i64 t.kind, .string t.name, .string t.other, .int .i64 t.n, .int .i64 t.type.kind, .slice l.ta l.tn l.tc, .int .i64 t.res.kind, .slice l.ra l.rn l.rc, .slice l.aa l.an l.ac], .int .i64 m, .pointer (some ⟨bx, 0, none⟩)] w fun e w' => e = .returned (.bool true) ∧ Wrote [bx] w w' ∧ Blk w' bx 3 #[.int .i64 (max v m)] := by
  have hx1 := hx.alloc (.cells #[.int .i64 t.kind, .string t.name, .string t.other, .int .i64 t.n, .int .i64 t.type.kind, .slice l.ta l.tn l.tc, .int .i64 t.res.kind, .slice l.ra l.rn l.rc, .slice l.aa l.an l.ac] 29)
  have c0 : ∀ o, (w.alloc o).cell? ⟨bx, 0, none⟩ = some (.int .i64 v) := fun o => (hx.alloc o).cell 0
  have z0 : ∀ o, (w.alloc o).frozen? ⟨bx, 0, none⟩ = false := fun o => (hx.alloc o).free 0
  have hxl := hx.lt
  go_enter Tryz.func37, Tryz.ntmps37
  go_wp2_with fail
  all_goals go_ret
  all_goals refine ⟨rfl, (Wrote.setCell (by simp) _).trans (Wrote.of_below (below_new _ _)), ?_⟩
  · rw [show max v m = m by omega]
    exact (hx.set_ 0 _).alloc _
  · rw [show max v m = v by omega]
    exact (hx.set_ 0 _).alloc _

set_option maxHeartbeats 6400000 in
theorem levels_highest (t : Tm) : ∀ (l : Lt) (m v : Int) (bx : Nat) (w : World), MdX w bx t l → lvOk t m = true → Blk w bx 3 #[.int .i64 v] →
    Calls Tryz.prog 22 #[.agg #[.int .i64 t.kind, .string t.name, .string t.other, .int .i64 t.n, .int .i64 t.type.kind, .slice l.ta l.tn l.tc, .int .i64 t.res.kind, .slice l.ra l.rn l.rc, .slice l.aa l.an l.ac], .int .i64 m, .func (.func 37) #[] #[.pointer (some ⟨bx, 0, none⟩)]] w
      fun e w' => e = .returned (.bool true) ∧ Wrote [bx] w w' ∧ Blk w' bx 3 #[.int .i64 (max v (t.hi m))] := by
  induction t using Tm.ind' with | h t ih => ?_
  intro l m v bx w h hH hx
  have IH := hide ih
  clear ih
  obtain ⟨hr1, hn, hr⟩ := h.get
  obtain ⟨m0, m2⟩ := lvOk_in hH
  replace hH := hide hH
  have hhi := hide (t.hi_eq m)
  have CL := hide fun W hW => lit_highest t l m v bx W hW
  have hbw : bx < w.heap.size := hx.lt
  have hx' := hide (hx.alloc (.cells #[.int .i64 t.kind, .string t.name, .string t.other, .int .i64 t.n, .int .i64 t.type.kind, .slice l.ta l.tn l.tc, .int .i64 t.res.kind, .slice l.ra l.rn l.rc, .slice l.aa l.an l.ac] 29))
  replace hr1 := hide hr1
  go_enter Tryz.func22, Tryz.ntmps22
  go_wp2_with fail
  refine (CL.out _ hx'.out).mono ?_
  rintro e w1 ⟨rfl, b1, x1⟩
  have hne : w.heap.size ≠ bx := by omega
  have B1 := (Blk.new w 29 #[.int .i64 t.kind, .string t.name, .string t.other, .int .i64 t.n, .int .i64 t.type.kind, .slice l.ta l.tn l.tc, .int .i64 t.res.kind, .slice l.ra l.rn l.rc, .slice l.aa l.an l.ac]).wrote hne b1
  obtain ⟨y0, y1, y2, y3, y4, y5, y6, y7, y8⟩ := B1.nine
  go_wp2_with fail
  have hw1 : Wrote [bx] w w1 := (Wrote.of_below (below_new _ _)).trans b1
  go_loopw [17] (fun i wr => ∃ j : Nat, j ≤ l.an ∧ i = .int .i64 j ∧ Blk wr bx 3 #[.int .i64 (max v (Tm.his (t.args.take j) (nextLv t.kind m) m))] ∧ Blk wr w.heap.size 29 #[.int .i64 t.kind, .string t.name, .string t.other, .int .i64 t.n, .int .i64 t.type.kind, .slice l.ta l.tn l.tc, .int .i64 t.res.kind, .slice l.ra l.rn l.rc, .slice l.aa l.an l.ac] ∧ Wrote [bx] w wr) (fun i _ => l.an - (intOf i).toNat)
  case atStart => exact ⟨0, by omega, rfl, by simpa [Tm.his] using x1, B1, hw1⟩
  case round =>
    clear y0 y1 y2 y3 y4 y5 y6 y7 y8 hw1 x1 b1 B1
    obtain ⟨j, hj, rfl, hX, hB, hb⟩ := hrel
    have hsz := hb.size
    by_cases hjn : j < l.an
    · have hjx : j < t.args.length := by rw [← hr1.out]; exact hjn
      obtain ⟨b, off, l', ha, hlt, hnb, hc, hd⟩ := (h.wrote hb).get.2.2 j hjx
      obtain ⟨e0, e1, e2, e3, e4, e5, e6, e7, e8⟩ := hc.nine
      have X0 := Blk.new wr 29 #[.int .i64 t.args[j].kind, .string t.args[j].name, .string t.args[j].other, .int .i64 t.args[j].n, .int .i64 t.args[j].type.kind, .slice l'.ta l'.tn l'.tc, .int .i64 t.args[j].res.kind, .slice l'.ra l'.rn l'.rc, .slice l'.aa l'.an l'.ac]
      have O0 := hB.alloc (.cells #[.int .i64 t.args[j].kind, .string t.args[j].name, .string t.args[j].other, .int .i64 t.args[j].n, .int .i64 t.args[j].type.kind, .slice l'.ta l'.tn l'.tc, .int .i64 t.args[j].res.kind, .slice l'.ra l'.rn l'.rc, .slice l'.aa l'.an l'.ac] 29)
      have Q0 : Blk (wr.alloc (.cells #[.int .i64 t.args[j].kind, .string t.args[j].name, .string t.args[j].other, .int .i64 t.args[j].n, .int .i64 t.args[j].type.kind, .slice l'.ta l'.tn l'.tc, .int .i64 t.args[j].res.kind, .slice l'.ra l'.rn l'.rc, .slice l'.aa l'.an l'.ac] 29)).drew _ _ _ := hX.alloc (.cells #[.int .i64 t.args[j].kind, .string t.args[j].name, .string t.args[j].other, .int .i64 t.args[j].n, .int .i64 t.args[j].type.kind, .slice l'.ta l'.tn l'.tc, .int .i64 t.args[j].res.kind, .slice l'.ra l'.rn l'.rc, .slice l'.aa l'.an l'.ac] 29)
      obtain ⟨v0, v1, v2, v3, v4, v5, v6, v7, v8⟩ := O0.nine_at ha
      obtain ⟨x0, x1, x2, x3, x4, x5, x6, x7, x8⟩ := X0.nine
      have i0 : (0 : Int) ≤ (j : Int) := by omega
      have i1 : (j : Int) < (l.an : Int) := by omega
      have hal : Wrote [bx] wr (wr.alloc (.cells #[.int .i64 t.args[j].kind, .string t.args[j].name, .string t.args[j].other, .int .i64 t.args[j].n, .int .i64 t.args[j].type.kind, .slice l'.ta l'.tn l'.tc, .int .i64 t.args[j].res.kind, .slice l'.ra l'.rn l'.rc, .slice l'.aa l'.an l'.ac] 29)).drew := Wrote.of_below (below_next (below_new _ _) (below_drew _))
      have hdd := hd.wrote hal
      have hbd := hb.trans hal
      have CN := fun W => partLevel_any t l m W m0 m2
      rw [ha] at CN
      rw [ha]
      replace CN := hide CN
      have hH1 := hide (lvOk_arg hH.out (List.getElem_mem hjx))
      have HA := hide ha
      clear ha hc
      have C := hide (fun W hW hq => IH.out _ (List.getElem_mem hjx) l' (nextLv t.kind m) (max v (Tm.his (t.args.take j) (nextLv t.kind m) m)) bx W hW hH1.out hq)
      go_wp2_with fail
      go_region_held3 (fun W => (W.cell? ⟨w.heap.size, 0, none⟩ = some (.int .i64 t.kind) ∧ W.cell? ⟨w.heap.size, 1, none⟩ = some (.string t.name) ∧ W.cell? ⟨w.heap.size, 2, none⟩ = some (.string t.other) ∧ W.cell? ⟨w.heap.size, 3, none⟩ = some (.int .i64 t.n) ∧ W.cell? ⟨w.heap.size, 4, none⟩ = some (.int .i64 t.type.kind) ∧ W.cell? ⟨w.heap.size, 5, none⟩ = some (.slice l.ta l.tn l.tc) ∧ W.cell? ⟨w.heap.size, 6, none⟩ = some (.int .i64 t.res.kind) ∧ W.cell? ⟨w.heap.size, 7, none⟩ = some (.slice l.ra l.rn l.rc) ∧ W.cell? ⟨w.heap.size, 8, none⟩ = some (.slice (some ⟨b, off, none⟩) l.an l.ac)) ∧ (W.cell? ⟨wr.heap.size, 0, none⟩ = some (.int .i64 t.args[j].kind) ∧ W.cell? ⟨wr.heap.size, 1, none⟩ = some (.string t.args[j].name) ∧ W.cell? ⟨wr.heap.size, 2, none⟩ = some (.string t.args[j].other) ∧ W.cell? ⟨wr.heap.size, 3, none⟩ = some (.int .i64 t.args[j].n) ∧ W.cell? ⟨wr.heap.size, 4, none⟩ = some (.int .i64 t.args[j].type.kind) ∧ W.cell? ⟨wr.heap.size, 5, none⟩ = some (.slice l'.ta l'.tn l'.tc) ∧ W.cell? ⟨wr.heap.size, 6, none⟩ = some (.int .i64 t.args[j].res.kind) ∧ W.cell? ⟨wr.heap.size, 7, none⟩ = some (.slice l'.ra l'.rn l'.rc) ∧ W.cell? ⟨wr.heap.size, 8, none⟩ = some (.slice l'.aa l'.an l'.ac)))
        (first | exact ⟨⟨v0, v1, v2, v3, v4, v5, v6, v7, v8⟩, x0, x1, x2, x3, x4, x5, x6, x7, x8⟩ | exact ⟨O1.nine_at HA.out, X1.nine⟩ | exact ⟨O2.nine_at HA.out, X2.nine⟩)
        (first
          | (go_at_call 52; (with_reducible refine (CN.out _).mono ?_); rintro e w2 ⟨rfl, b2⟩
             have O1 : Blk w2 _ _ _ := Blk.under (w := (wr.alloc (.cells #[.int .i64 t.args[j].kind, .string t.args[j].name, .string t.args[j].other, .int .i64 t.args[j].n, .int .i64 t.args[j].type.kind, .slice l'.ta l'.tn l'.tc, .int .i64 t.args[j].res.kind, .slice l'.ra l'.rn l'.rc, .slice l'.aa l'.an l'.ac] 29)).drew) O0 b2
             have X1 : Blk w2 _ _ _ := Blk.under (w := (wr.alloc (.cells #[.int .i64 t.args[j].kind, .string t.args[j].name, .string t.args[j].other, .int .i64 t.args[j].n, .int .i64 t.args[j].type.kind, .slice l'.ta l'.tn l'.tc, .int .i64 t.args[j].res.kind, .slice l'.ra l'.rn l'.rc, .slice l'.aa l'.an l'.ac] 29)).drew) X0 b2
             have Q1 := Q0.under b2
             have d1 := hdd.wrote (Wrote.of_below b2)
             have k1 := hbd.trans (Wrote.of_below b2))
          | (go_at_call 22; (with_reducible refine (C.out _ d1 Q1).mono ?_); rintro e w3 ⟨rfl, b3, Q2⟩
             have O2 := O1.wrote (by omega) b3
             have X2 := X1.wrote (by omega) b3
             have k2 := k1.trans b3))
      go_wp2_with fail
      go_roundw
      case rel =>
        refine ⟨j + 1, by omega, by go_num, ?_, (by first | exact O2 | (have := O2; rw [HA.out] at this; exact this)), k2⟩
        rw [Tm.his_take t.args _ _ j hjx, ← Int.max_assoc]
        exact Q2
      case measure => simp [intOf]; omega
    · have h4 : l.an = t.args.length := hr1.out
      obtain ⟨v0, v1, v2, v3, v4, v5, v6, v7, v8⟩ := hB.nine
      rw [List.take_of_length_le (by omega), ← hhi.out] at hX
      clear h4
      go_wp2_with fail
      go_ret
      exact ⟨rfl, hb, hX⟩

set_option maxHeartbeats 1600000 in
theorem implHighestLevel_any (t : Tm) (l : Lt) (w : World) (h : Md w t l) (hw : t.wt ≤ 1048576) :
    Calls Tryz.prog 14 #[.agg #[.int .i64 t.kind, .string t.name, .string t.other, .int .i64 t.n, .int .i64 t.type.kind, .slice l.ta l.tn l.tc, .int .i64 t.res.kind, .slice l.ra l.rn l.rc, .slice l.aa l.an l.ac]] w fun e w' => e = .returned (.int .i64 (if t.levelsOk 0 then t.hi 0 else -1)) ∧ Below w.heap.size w w' := by
  have h1 : Md (w.alloc (.cells #[.int .i64 t.kind, .string t.name, .string t.other, .int .i64 t.n, .int .i64 t.type.kind, .slice l.ta l.tn l.tc, .int .i64 t.res.kind, .slice l.ra l.rn l.rc, .slice l.aa l.an l.ac] 29)) t l := h.below (below_new _ _)
  have C := implLevelsOk_any t l 0 _ h1 hw
  cases ho : t.levelsOk 0 with
  | false =>
    rw [ho] at C
    replace C := hide C
    clear ho
    go_enter Tryz.func14, Tryz.ntmps14
    go_wp2_with (go_at_call 6; (with_reducible refine C.out.mono ?_); rintro e w1 ⟨rfl, b1⟩)
    go_ret
    exact ⟨rfl, below_of_alloc b1⟩
  | true =>
    have hl : lvOk t 0 = true := by
      rw [Tm.levelsOk, Bool.and_eq_true] at ho
      exact ho.2
    rw [ho] at C
    replace C := hide C
    clear ho
    go_enter Tryz.func14, Tryz.ntmps14
    go_wp2_with (first
      | (go_at_call 6; (with_reducible refine C.out.mono ?_); rintro e w1 ⟨rfl, b1⟩
         have B1 := (Blk.new w _ _).under b1
         have h2 := h1.below b1
         have k1 := below_of_alloc b1
         have b1s := b1.size
         obtain ⟨u0, u1, u2, u3, u4, u5, u6, u7, u8⟩ := B1.nine
         obtain ⟨r0, r1, r2, r3, r4, r5, r6, r7, r8⟩ : _ ∧ _ ∧ _ ∧ _ ∧ _ ∧ _ ∧ _ ∧ _ ∧ _ := ⟨fun o => (B1.alloc o).nine.1, fun o => (B1.alloc o).nine.2.1, fun o => (B1.alloc o).nine.2.2.1, fun o => (B1.alloc o).nine.2.2.2.1, fun o => (B1.alloc o).nine.2.2.2.2.1, fun o => (B1.alloc o).nine.2.2.2.2.2.1, fun o => (B1.alloc o).nine.2.2.2.2.2.2.1, fun o => (B1.alloc o).nine.2.2.2.2.2.2.2.1, fun o => (B1.alloc o).nine.2.2.2.2.2.2.2.2⟩)
      | (go_at_call 22; (with_reducible refine (levels_highest t l 0 0 w1.heap.size _ ?_ hl ?_).mono ?_)
         · obtain ⟨fp, hfp⟩ := h2
           exact ⟨fp, hfp.below (below_new _ _), fun hin => absurd (RM.lt t l fp hfp _ hin) (Nat.lt_irrefl _)⟩
         · exact Blk.new w1 3 #[.int .i64 0]
         rintro e w2 ⟨rfl, b2, q2⟩
         have q3 := q2.cell 0
         simp at q3))
    go_ret
    refine ⟨ret_int ?_, ?_⟩
    · have := (Tm.hi_in t 0 hl).1
      first | omega | (rw [if_pos rfl]; omega)
    · have k2 := b2.below (B := w1.heap.size) (by simp) (by simp)
      exact (k1.trans ((below_new w1 (.cells #[.int .i64 0] 3)).mono k1.size)).trans (k2.mono k1.size)
/-- The greatest level, or -1. -/
def Tm.highest (t : Tm) : Int := if t.levelsOk 0 then t.hi 0 else -1
theorem specHighestLevel_law (t : Tm) (l : Lt) (w : World) (h : Md w t l) (hw : t.wt ≤ 1048576) :
    Calls Tryz.prog 15 #[.agg #[.int .i64 t.kind, .string t.name, .string t.other, .int .i64 t.n, .int .i64 t.type.kind, .slice l.ta l.tn l.tc, .int .i64 t.res.kind, .slice l.ra l.rn l.rc, .slice l.aa l.an l.ac]] w fun e w' => e = .returned (.int .i64 t.highest) ∧ Below w.heap.size w w' := specHighestLevel_any t l w h hw
theorem implHighestLevel_law (t : Tm) (l : Lt) (w : World) (h : Md w t l) (hw : t.wt ≤ 1048576) :
    Calls Tryz.prog 14 #[.agg #[.int .i64 t.kind, .string t.name, .string t.other, .int .i64 t.n, .int .i64 t.type.kind, .slice l.ta l.tn l.tc, .int .i64 t.res.kind, .slice l.ra l.rn l.rc, .slice l.aa l.an l.ac]] w fun e w' => e = .returned (.int .i64 t.highest) ∧ Below w.heap.size w w' := implHighestLevel_any t l w h hw
end Go.Proofs.YtklifieahcoljaaGreat

namespace Go.Proofs.YtklifieahcoljaaGreat
open Go.RowKit
set_option linter.unusedVariables false
set_option linter.unusedSimpArgs false

/-- Some node is of kind q. -/
def Ty.hasKind (q : Int) (t : Ty) : Bool := !(t.all fun x => !(x.kind == q))
theorem Ty.hasKind_eq (q k : Int) (xs : List Ty) : Ty.hasKind q ⟨k, xs⟩ = (xs.any (Ty.hasKind q) || k == q) := by
  rw [Ty.hasKind, Ty.all_eq, ← all_not_any]
  simp only [Bool.not_and, Bool.not_not, Ty.hasKind]
  rw [Bool.or_comm]
  rfl
theorem Ty.hasKind_code (t : Ty) : (!t.hasKind 4) = t.all Ty.nocode := by
  rw [Ty.hasKind, Bool.not_not]
  rfl

set_option maxHeartbeats 800000 in
theorem l3Has_any (q : Int) (t : Ty) : ∀ (c0 c1 : Value) (w : World), Rd w t c0 c1 →
    Calls Tryz.prog 62 #[.agg #[c0, c1], .int .i64 q] w fun e w' => e = .returned (.bool (t.hasKind q)) ∧ Below w.heap.size w w' := by
  induction t using Ty.ind with | h k xs ih => ?_
  intro c0 c1 w h
  have IH := hide ih
  clear ih
  obtain ⟨a, n, cap, rfl, rfl, hk, hr⟩ := h.shape
  have hn : n ≤ 9223372036854775807 := by obtain ⟨_, h2, h3, _⟩ := hr; unfold maxLen at h3; omega
  have hall := hide (Ty.hasKind_eq q k xs)
  go_enter Tryz.func62, Tryz.ntmps62
  go_wp2_with fail
  go_loopw [5] (fun i wr => ∃ j : Nat, j ≤ n ∧ i = .int .i64 j ∧ Hid (∀ i (h : i < xs.length), i < j → xs[i].hasKind q = false) ∧ Blk wr w.heap.size 26 #[.int .i64 k, .slice a n cap] ∧ Below w.heap.size w wr) (fun i _ => n - (intOf i).toNat)
  case atStart => exact ⟨0, by omega, rfl, fun i _ hi => by omega, Blk.new _ _ _, (by repeat (first | exact Below.refl _ _ | assumption | refine Below.drew ?_ | refine below_drewN ?_ _ | refine Below.alloc ?_ (by first | omega | (simp; done) | (simp; omega)) _ | refine Below.setCell ?_ (by first | omega | (simp; done) | (simp; omega)) _))⟩
  case round =>
    obtain ⟨j, hj, rfl, HR, hB, hb⟩ := hrel
    have hsz := hb.size
    obtain ⟨v0, v1⟩ := hB.two
    by_cases hjn : j < n
    · have hjx : j < xs.length := by rw [← hr.1]; exact hjn
      obtain ⟨b, off, e0, e1, rfl, hlt, q0, q1, hd⟩ := (hr.below hb).get j hjx
      cases hq : xs[j].hasKind q with
      | true =>
        have C := hide (fun W hW => IH.out _ (List.getElem_mem hjx) e0 e1 W hW)
        rw [hq] at C
        replace hq := hide hq
        go_wp2_with (go_at_call 62; (with_reducible refine (C.out _ hd).mono ?_); rintro e w' ⟨rfl, hb'⟩)
        go_ret
        refine ⟨ret_bool ?_, hb.trans (by repeat (first | exact Below.refl _ _ | refine Below.drew ?_ | refine below_drewN ?_ _ | refine Below.alloc ?_ (by first | omega | (simp; done) | (simp; omega)) _ | refine Below.setCell ?_ (by first | omega | (simp; done) | (simp; omega)) _ | refine Below.trans ?_ (Below.mono hb' (by first | omega | (simp; done) | (simp; omega)))))⟩
        rw [hall.out, any_yes hjx hq.out]
        rfl
      | false =>
        have C := hide (fun W hW => IH.out _ (List.getElem_mem hjx) e0 e1 W hW)
        rw [hq] at C
        replace hq := hide hq
        go_wp2_with (go_at_call 62; (with_reducible refine (C.out _ hd).mono ?_); rintro e w' ⟨rfl, hb'⟩)
        go_roundw
        case rel =>
          refine ⟨j + 1, by omega, by go_num, fun i hi hij => ?_, hB.under hb', hb.trans (by repeat (first | exact Below.refl _ _ | refine Below.drew ?_ | refine below_drewN ?_ _ | refine Below.alloc ?_ (by first | omega | (simp; done) | (simp; omega)) _ | refine Below.setCell ?_ (by first | omega | (simp; done) | (simp; omega)) _ | refine Below.trans ?_ (Below.mono hb' (by first | omega | (simp; done) | (simp; omega)))))⟩
          by_cases hij' : i < j
          · exact HR.out i hi hij'
          · obtain rfl : i = j := by omega
            exact hq.out
        case measure => simp [intOf]; omega
    · have hx1 : n = xs.length := hr.1
      have hfin : Hid (Ty.hasKind q ⟨k, xs⟩ = (k == q)) := by
        have := hall.out
        rw [any_no fun i hi => HR.out i hi (by omega), Bool.false_or] at this
        exact this
      clear hx1
      go_wp2
      go_ret
      exact ⟨ret_bool hfin.out.symm, hb⟩

/-- A plain type: valid, without code. -/
def Ty.plain (t : Ty) : Bool := t.valid && t.all Ty.nocode

set_option maxHeartbeats 400000 in
theorem implIsPlainType_any (t : Ty) (c0 c1 : Value) (w : World) (h : Rd w t c0 c1) (hz : Ty.sizes t.args ≤ 1048576) :
    Calls Tryz.prog 30 #[.agg #[c0, c1]] w fun e w' => e = .returned (.bool t.plain) ∧ Below w.heap.size w w' := by
  have h1 : Rd (w.alloc (.cells #[c0, c1] 26)) t c0 c1 := h.below (below_new _ _)
  have C := implIsValidType_any t c0 c1 (w.alloc (.cells #[c0, c1] 26)) h1 hz
  cases hv : t.valid with
  | true =>
    have hf := hide (show t.plain = t.all Ty.nocode by simp [Ty.plain, hv])
    rw [hv] at C
    replace C := hide C
    clear hv
    go_enter Tryz.func30, Tryz.ntmps30
    go_wp2_with fail
    refine C.out.mono ?_
    rintro e w1 ⟨rfl, b1⟩
    have B1 := (Blk.new w _ _).under b1
    obtain ⟨u0, u1⟩ := B1.two
    go_wp2_with fail
    refine (allTypes_plainLit_any t _ _ _ (h1.below b1)).mono ?_
    rintro e w2 ⟨rfl, b2⟩
    go_wp2_with fail
    go_ret
    refine ⟨ret_bool ?_, below_next (below_of_alloc b1) b2⟩
    rw [hf.out]
  | false =>
    have hf := hide (show t.plain = false by simp [Ty.plain, hv])
    rw [hv] at C
    replace C := hide C
    clear hv
    go_enter Tryz.func30, Tryz.ntmps30
    go_wp2_with fail
    refine C.out.mono ?_
    rintro e w1 ⟨rfl, b1⟩
    go_wp2_with fail
    go_ret
    exact ⟨ret_bool hf.out.symm, below_of_alloc b1⟩
end Go.Proofs.YtklifieahcoljaaGreat

namespace Go.Proofs.YtklifieahcoljaaGreat
open Go.RowKit
set_option linter.unusedVariables false
set_option linter.unusedSimpArgs false

/-- The program's test of a plain node. -/
def Tm.plainNode (t : Tm) : Bool := !inB t.kind 10 13 && (!(t.kind == 6 || t.kind == 9) || (t.type.plain && (t.kind == 6 || t.res.plain)))
theorem Tm.plainNode_eq (t : Tm) : t.plainNode = (!inB t.kind 10 13 && (!(t.kind == 6 || t.kind == 9) || (t.type.plain && (t.kind == 6 || t.res.plain)))) := rfl

set_option maxHeartbeats 3200000 in
theorem plainNode_any (t : Tm) (l : Lt) (w : World) (h : Md w t l) (hw : t.wt ≤ 1048576) :
    Calls Tryz.prog 28 #[.agg #[.int .i64 t.kind, .string t.name, .string t.other, .int .i64 t.n, .int .i64 t.type.kind, .slice l.ta l.tn l.tc, .int .i64 t.res.kind, .slice l.ra l.rn l.rc, .slice l.aa l.an l.ac]] w fun e w' => e = .returned (.bool t.plainNode) ∧ Below w.heap.size w w' := by
  obtain ⟨-, ht, hre, -⟩ := h.shape
  have hwt := t.wt_eq
  have z1 : Ty.sizes t.type.args ≤ 1048576 := by omega
  have z2 : Ty.sizes t.res.args ≤ 1048576 := by omega
  have CV := hide fun W (hW : Below w.heap.size w W) => implIsPlainType_any t.type _ _ W (ht.below hW) z1
  have DV := hide fun W (hW : Below w.heap.size w W) => implIsPlainType_any t.res _ _ W (hre.below hW) z2
  have k0 : Below w.heap.size w (w.alloc (.cells #[.int .i64 t.kind, .string t.name, .string t.other, .int .i64 t.n, .int .i64 t.type.kind, .slice l.ta l.tn l.tc, .int .i64 t.res.kind, .slice l.ra l.rn l.rc, .slice l.aa l.an l.ac] 29)) := below_new _ _
  have B0 := Blk.new w 29 #[.int .i64 t.kind, .string t.name, .string t.other, .int .i64 t.n, .int .i64 t.type.kind, .slice l.ta l.tn l.tc, .int .i64 t.res.kind, .slice l.ra l.rn l.rc, .slice l.aa l.an l.ac]
  have hf := t.plainNode_eq
  clear ht hre hwt hw z1 z2 h
  cases hs : inB t.kind 10 13 with
  | true =>
    rw [hs] at hf
    simp at hf
    replace hf := hide hf
    have CS := hide fun W => isStage_is hs W
    have h10 := inB_iff.1 hs
    have g6 : (t.kind == 6) = false := beq_eq_false_iff_ne.2 (by omega)
    have g9 : (t.kind == 9) = false := beq_eq_false_iff_ne.2 (by omega)
    clear hs h10
    go_enter Tryz.func28, Tryz.ntmps28
    go_wp2_with (go_at_call 29; (with_reducible refine (CS.out _).mono ?_); rintro e w1 ⟨rfl, rfl⟩)
    all_goals go_ret
    all_goals exact ⟨ret_bool hf.out.symm, k0⟩
  | false =>
    have CS := hide fun W => isStage_is hs W
    rw [hs] at hf
    clear hs
    by_cases h6 : t.kind = 6
    · have g6 := beq_iff_eq.2 h6
      simp [g6] at hf
      replace hf := hide hf
      clear h6
      go_enter Tryz.func28, Tryz.ntmps28
      go_wp2_with (first
        | (go_at_call 29; (with_reducible refine (CS.out _).mono ?_); rintro e w1 ⟨rfl, rfl⟩)
        | (go_at_call 30; (with_reducible refine (CV.out _ k0).mono ?_); rintro e w2 ⟨rfl, b2⟩
           have B2 := B0.under b2
           have k2 := below_next k0 b2
           obtain ⟨u0, u1, u2, u3, u4, u5, u6, u7, u8⟩ := B2.nine))
      all_goals go_ret
      all_goals exact ⟨ret_bool (by rw [hf.out]; simp_all), k2⟩
    · have g6 := beq_eq_false_iff_ne.2 h6
      by_cases h9 : t.kind = 9
      · have g9 := beq_iff_eq.2 h9
        simp [g6, g9] at hf
        replace hf := hide hf
        clear h6 h9
        go_enter Tryz.func28, Tryz.ntmps28
        go_wp2_with (first
          | (go_at_call 29; (with_reducible refine (CS.out _).mono ?_); rintro e w1 ⟨rfl, rfl⟩)
          | (go_at_call 30; (with_reducible refine (CV.out _ k0).mono ?_); rintro e w2 ⟨rfl, b2⟩
             have B2 := B0.under b2
             have k2 := below_next k0 b2
             obtain ⟨u0, u1, u2, u3, u4, u5, u6, u7, u8⟩ := B2.nine)
          | (go_at_call 30; (with_reducible refine (DV.out _ k2).mono ?_); rintro e w3 ⟨rfl, b3⟩
             have k3 := below_next k2 b3))
        all_goals go_ret
        all_goals first
          | exact ⟨ret_bool (by rw [hf.out]; simp_all), k3⟩
          | exact ⟨ret_bool (by rw [hf.out]; simp_all), k2⟩
      · have g9 := beq_eq_false_iff_ne.2 h9
        simp [g6, g9] at hf
        replace hf := hide hf
        clear h6 h9
        go_enter Tryz.func28, Tryz.ntmps28
        go_wp2_with (go_at_call 29; (with_reducible refine (CS.out _).mono ?_); rintro e w1 ⟨rfl, rfl⟩)
        all_goals go_ret
        all_goals exact ⟨ret_bool hf.out.symm, k0⟩
end Go.Proofs.YtklifieahcoljaaGreat

namespace Go.Proofs.YtklifieahcoljaaGreat
open Go.RowKit
set_option linter.unusedVariables false
set_option linter.unusedSimpArgs false

set_option maxHeartbeats 1600000 in
theorem allTerms_plainNode_any (t : Tm) : ∀ (l : Lt) (w : World), Md w t l → t.wt ≤ 1048576 →
    Calls Tryz.prog 27 #[.agg #[.int .i64 t.kind, .string t.name, .string t.other, .int .i64 t.n, .int .i64 t.type.kind, .slice l.ta l.tn l.tc, .int .i64 t.res.kind, .slice l.ra l.rn l.rc, .slice l.aa l.an l.ac], .func (.func 28) #[] #[]] w fun e w' => e = .returned (.bool (t.all Tm.plainNode)) ∧ Below w.heap.size w w' := by
  induction t using Tm.ind' with | h t ih => ?_
  intro l w h hw
  have L : ∀ x ∈ t.args, LitTm (.func (.func 28) #[] #[]) (fun x => !x.all Tm.plainNode) x := by
    intro x hx bx l' W hd hA
    have C := hide (fun W hW => ih x hx l' W hW (Tm.wt_arg hx hw))
    have hA1 : ∀ o, (W.alloc o).cell? ⟨bx, 0, none⟩ = some (.func (.func 28) #[] #[]) := fun o => (World.cell?_alloc_lt W o _ (World.block_lt_of_cell? _ _ hA)).trans hA
    clear ih hA
    go_enter Tryz.func58, Tryz.ntmps58
    go_wp2_with (go_at_call 27; (with_reducible refine (C.out _ (hd.below (below_new _ _))).mono ?_); rintro e w' ⟨rfl, hb'⟩)
    go_ret
    exact ⟨rfl, below_of_alloc hb'⟩
  clear ih
  have CC := hide (containsFuncTm_of (.func (.func 28) #[] #[]) (fun x => !x.all Tm.plainNode) t.args L)
  clear L
  obtain ⟨-, -, -, hr⟩ := h.shape
  have hall := Tm.all_eq Tm.plainNode t
  have hp' : ∀ W, Below w.heap.size w W → Md W t l := fun W hW => h.below hW
  have C := fun W hd => plainNode_any t l W hd hw
  cases hpt : Tm.plainNode t with
  | true =>
    rw [hpt] at C hall
    replace hall := hide hall
    clear hpt
    replace C := hide C
    go_enter Tryz.func27, Tryz.ntmps27
    go_wp2_with (first
      | (go_at_call 28; (with_reducible refine (C.out _ (hp' _ (by repeat (first | exact Below.refl _ _ | assumption | refine Below.drew ?_ | refine below_drewN ?_ _ | refine Below.alloc ?_ (by first | omega | (simp; done) | (simp; omega)) _ | refine Below.setCell ?_ (by first | omega | (simp; done) | (simp; omega)) _)))).mono ?_); rintro e w1 ⟨rfl, b1⟩
         have B1 := Blk.under ((Blk.new w 29 #[.int .i64 t.kind, .string t.name, .string t.other, .int .i64 t.n, .int .i64 t.type.kind, .slice l.ta l.tn l.tc, .int .i64 t.res.kind, .slice l.ra l.rn l.rc, .slice l.aa l.an l.ac]).alloc (.cells #[.func (.func 28) #[] #[]] 33)) b1
         have A1 := (Blk.new2 w (.cells #[.int .i64 t.kind, .string t.name, .string t.other, .int .i64 t.n, .int .i64 t.type.kind, .slice l.ta l.tn l.tc, .int .i64 t.res.kind, .slice l.ra l.rn l.rc, .slice l.aa l.an l.ac] 29) 33 #[.func (.func 28) #[] #[]]).under b1
         obtain ⟨u0, u1, u2, u3, u4, u5, u6, u7, u8⟩ := B1.nine
         have hA1 := hide (A1.cell 0))
      | (go_at_call 57; (with_reducible refine (CC.out _ _ _ _ _ (hr.below (by repeat (first | exact Below.refl _ _ | refine Below.drew ?_ | refine below_drewN ?_ _ | refine Below.alloc ?_ (by first | omega | (simp; done) | (simp; omega)) _ | refine Below.setCell ?_ (by first | omega | (simp; done) | (simp; omega)) _ | refine Below.trans ?_ (Below.mono b1 (by first | omega | (simp; done) | (simp; omega)))))) hA1.out).mono ?_); rintro e w2 ⟨rfl, b2⟩))
    go_ret
    refine ⟨ret_bool ?_, below_next (by repeat (first | exact Below.refl _ _ | refine Below.drew ?_ | refine below_drewN ?_ _ | refine Below.alloc ?_ (by first | omega | (simp; done) | (simp; omega)) _ | refine Below.setCell ?_ (by first | omega | (simp; done) | (simp; omega)) _ | refine Below.trans ?_ (Below.mono b1 (by first | omega | (simp; done) | (simp; omega))))) b2⟩
    rw [hall.out, all_not_any]
    rfl
  | false =>
    rw [hpt] at C hall
    replace hall := hide hall
    clear hpt
    replace C := hide C
    go_enter Tryz.func27, Tryz.ntmps27
    go_wp2_with (go_at_call 28; (with_reducible refine (C.out _ (hp' _ (by repeat (first | exact Below.refl _ _ | assumption | refine Below.drew ?_ | refine below_drewN ?_ _ | refine Below.alloc ?_ (by first | omega | (simp; done) | (simp; omega)) _ | refine Below.setCell ?_ (by first | omega | (simp; done) | (simp; omega)) _)))).mono ?_); rintro e w1 ⟨rfl, b1⟩)
    go_ret
    refine ⟨ret_bool ?_, (by repeat (first | exact Below.refl _ _ | refine Below.drew ?_ | refine below_drewN ?_ _ | refine Below.alloc ?_ (by first | omega | (simp; done) | (simp; omega)) _ | refine Below.setCell ?_ (by first | omega | (simp; done) | (simp; omega)) _ | refine Below.trans ?_ (Below.mono b1 (by first | omega | (simp; done) | (simp; omega)))))⟩
    rw [hall.out]
    rfl
end Go.Proofs.YtklifieahcoljaaGreat

namespace Go.Proofs.YtklifieahcoljaaGreat
open Go.RowKit
set_option linter.unusedVariables false
set_option linter.unusedSimpArgs false

/-- The reference's test of a plain node. -/
def plainS (t : Tm) : Bool := decide (t.kind < 10) && (!t.type.hasKind 4 && !t.res.hasKind 4)
theorem plainS_eq (t : Tm) : plainS t = (decide (t.kind < 10) && (!t.type.hasKind 4 && !t.res.hasKind 4)) := rfl
theorem Ty.zero_plain {t : Ty} (h : t.zero = true) : t.hasKind 4 = false := by
  rw [Ty.zero_form h]
  simp [Ty.hasKind_eq]
theorem arityS_in {k : Int} {nm : ByteArray} (h : 0 ≤ arityS k nm) : 1 ≤ k ∧ k ≤ 13 := by
  unfold arityS at h
  simp only [Bool.or_eq_true, beq_iff_eq] at h
  split at h
  · omega
  · split at h
    · omega
    · split at h
      · omega
      · split at h
        · omega
        · split at h
          · omega
          · omega
theorem plain_node {t : Tm} (h : formI t = true) : plainS t = t.plainNode := by
  rw [← node_form, nodeS, Bool.and_eq_true] at h
  obtain ⟨hf, hl⟩ := h
  have hk := arityS_in (k := t.kind) (nm := t.name) (by rw [beq_iff_eq] at hl; omega)
  rw [fieldsS_eq, Bool.and_eq_true, Bool.and_eq_true] at hf
  obtain ⟨h1, h2, -⟩ := hf
  have hin : inB t.kind 10 13 = !decide (t.kind < 10) := by
    rw [Bool.eq_iff_iff, inB_iff]
    simp
    omega
  rw [plainS, Tm.plainNode, hin, Ty.plain, Ty.plain, ← Ty.hasKind_code, ← Ty.hasKind_code]
  have z1 := fun h : t.type.zero = true => Ty.zero_plain h
  have z2 := fun h : t.res.zero = true => Ty.zero_plain h
  generalize t.type.hasKind 4 = a1 at *
  generalize t.res.hasKind 4 = a2 at *
  generalize t.type.valid = v1 at *
  generalize t.res.valid = v2 at *
  generalize t.type.zero = y1 at *
  generalize t.res.zero = y2 at *
  by_cases h6 : t.kind = 6
  · simp [h6] at h1 h2 ⊢
    simp_all
  · by_cases h9 : t.kind = 9
    · simp [h9] at h1 h2 ⊢
      simp_all
    · have e6 : (t.kind == 6) = false := by simp [h6]
      have e9 : (t.kind == 9) = false := by simp [h9]
      have n9 : (t.kind != 9) = true := by simp [h9]
      rw [e6, e9] at h1
      rw [e9] at h2
      rw [e6, e9]
      simp at h1 h2 ⊢
      simp_all
theorem all_same {p q : Tm → Bool} {r : Tm → Bool} (h : ∀ t, r t = true → p t = q t) (t : Tm) : t.all r = true → t.all p = t.all q := by
  induction t using Tm.ind' with | h t ih => ?_
  intro hr
  rw [Tm.all_eq, Bool.and_eq_true, List.all_eq_true] at hr
  rw [Tm.all_eq, Tm.all_eq, h t hr.1]
  congr 1
  rw [Bool.eq_iff_iff, List.all_eq_true, List.all_eq_true]
  constructor
  · intro hh x hx
    rw [← ih x hx (hr.2 x hx)]
    exact hh x hx
  · intro hh x hx
    rw [ih x hx (hr.2 x hx)]
    exact hh x hx
/-- A plain term. -/
def Tm.plain (t : Tm) : Bool := t.ok && t.all Tm.plainNode
theorem Tm.plain_eq (t : Tm) : t.plain = (t.ok && t.all plainS) := by
  rw [Tm.plain]
  cases h : t.ok with
  | false => rfl
  | true => rw [all_same (fun t h => plain_node h) t h]

set_option maxHeartbeats 3200000 in
theorem l8Plain_any (t : Tm) : ∀ (l : Lt) (w : World), Md w t l → t.wt ≤ 1048576 →
    Calls Tryz.prog 31 #[.agg #[.int .i64 t.kind, .string t.name, .string t.other, .int .i64 t.n, .int .i64 t.type.kind, .slice l.ta l.tn l.tc, .int .i64 t.res.kind, .slice l.ra l.rn l.rc, .slice l.aa l.an l.ac]] w fun e w' => e = .returned (.bool (t.all plainS)) ∧ Below w.heap.size w w' := by
  induction t using Tm.ind' with | h t ih => ?_
  intro l w h hl
  have IH := hide ih
  clear ih
  obtain ⟨h0, ht, hrr, hr⟩ := h.shape
  clear h
  have hn : l.an ≤ 9223372036854775807 := by obtain ⟨_, h2, h3, _⟩ := hr; unfold maxLen at h3; omega
  have hall := hide (t.all_eq plainS)
  have CV := hide fun W (hW : Below w.heap.size w W) => l3Has_any 4 t.type _ _ W (ht.below hW)
  have DV := hide fun W (hW : Below w.heap.size w W) => l3Has_any 4 t.res _ _ W (hrr.below hW)
  clear ht hrr
  go_enter Tryz.func31, Tryz.ntmps31
  go_wp2_with fail
  go_loopw [3] (fun i wr => ∃ j : Nat, j ≤ l.an ∧ i = .int .i64 j ∧ Hid (∀ i (h : i < t.args.length), i < j → t.args[i].all plainS = true) ∧ Blk wr w.heap.size 29 #[.int .i64 t.kind, .string t.name, .string t.other, .int .i64 t.n, .int .i64 t.type.kind, .slice l.ta l.tn l.tc, .int .i64 t.res.kind, .slice l.ra l.rn l.rc, .slice l.aa l.an l.ac] ∧ Below w.heap.size w wr) (fun i _ => l.an - (intOf i).toNat)
  case atStart => exact ⟨0, by omega, rfl, fun i _ hi => by omega, Blk.new _ _ _, below_new _ _⟩
  case round =>
    obtain ⟨j, hj, rfl, HR, hB, hb⟩ := hrel
    have hsz := hb.size
    obtain ⟨v0, v1, v2, v3, v4, v5, v6, v7, hcell8⟩ := hB.nine
    by_cases hjn : j < l.an
    · have hjx : j < t.args.length := by rw [← hr.1]; exact hjn
      obtain ⟨b, off, l', ha, hlt, hc, hd⟩ := (hr.below hb).get j hjx
      obtain ⟨e0, e1, e2, e3, e4, e5, e6, e7, e8⟩ := hc.nine
      clear hc
      rw [ha] at hcell8 ⊢
      have hz1 : t.args[j].wt ≤ 1048576 := Tm.wt_arg (List.getElem_mem hjx) hl
      cases hq : t.args[j].all plainS with
      | true =>
        have C := hide (fun W hW => IH.out _ (List.getElem_mem hjx) l' W hW hz1)
        rw [hq] at C
        replace hq := hide hq
        go_wp2_with (go_at_call 31; (with_reducible refine (C.out _ hd).mono ?_); rintro e w' ⟨rfl, hb'⟩)
        go_roundw
        case rel =>
          refine ⟨j + 1, by omega, by go_num, fun i hi hij => ?_, (by have hB2 := hB.under hb'; rw [ha] at hB2; exact hB2), hb.trans (by repeat (first | exact Below.refl _ _ | refine Below.drew ?_ | refine below_drewN ?_ _ | refine Below.alloc ?_ (by first | omega | (simp; done) | (simp; omega)) _ | refine Below.setCell ?_ (by first | omega | (simp; done) | (simp; omega)) _ | refine Below.trans ?_ (Below.mono hb' (by first | omega | (simp; done) | (simp; omega)))))⟩
          by_cases hij' : i < j
          · exact HR.out i hi hij'
          · obtain rfl : i = j := by omega
            exact hq.out
        case measure => simp [intOf]; omega
      | false =>
        have C := hide (fun W hW => IH.out _ (List.getElem_mem hjx) l' W hW hz1)
        rw [hq] at C
        replace hq := hide hq
        go_wp2_with (go_at_call 31; (with_reducible refine (C.out _ hd).mono ?_); rintro e w' ⟨rfl, hb'⟩)
        go_ret
        refine ⟨ret_bool ?_, hb.trans (by repeat (first | exact Below.refl _ _ | refine Below.drew ?_ | refine below_drewN ?_ _ | refine Below.alloc ?_ (by first | omega | (simp; done) | (simp; omega)) _ | refine Below.setCell ?_ (by first | omega | (simp; done) | (simp; omega)) _ | refine Below.trans ?_ (Below.mono hb' (by first | omega | (simp; done) | (simp; omega)))))⟩
        rw [hall.out, all_no hjx hq.out, Bool.and_false]
    · have h4 : l.an = t.args.length := hr.1
      have hfin := show t.all plainS = plainS t by rw [hall.out, all_yes fun i hi => HR.out i hi (by omega), Bool.and_true]
      rw [plainS_eq] at hfin
      replace hfin := hide hfin
      clear h4
      go_wp2_with (first
        | (go_at_call 62; (with_reducible refine (CV.out _ hb).mono ?_); rintro e w1 ⟨rfl, b1⟩
           have k1 := hb.trans (b1.mono hb.size)
           have B1 := hB.under b1
           obtain ⟨p0, p1, p2, p3, p4, p5, p6, p7, p8⟩ := B1.nine)
        | (go_at_call 62; (with_reducible refine (DV.out _ k1).mono ?_); rintro e w2 ⟨rfl, b2⟩
           have k2 := k1.trans (b2.mono k1.size)))
      all_goals go_ret
      all_goals first
        | exact ⟨ret_bool (by rw [hfin.out]; simp_all), k2⟩
        | exact ⟨ret_bool (by rw [hfin.out]; simp_all), k1⟩
        | exact ⟨ret_bool (by rw [hfin.out, decide_eq_false (by omega), Bool.false_and]), hb⟩
set_option maxHeartbeats 800000 in
theorem specIsPlain_any (t : Tm) (l : Lt) (w : World) (h : Md w t l) (hw : t.wt ≤ 1048576) :
    Calls Tryz.prog 9 #[.agg #[.int .i64 t.kind, .string t.name, .string t.other, .int .i64 t.n, .int .i64 t.type.kind, .slice l.ta l.tn l.tc, .int .i64 t.res.kind, .slice l.ra l.rn l.rc, .slice l.aa l.an l.ac]] w fun e w' => e = .returned (.bool t.plain) ∧ Below w.heap.size w w' := by
  have h1 : Md (w.alloc (.cells #[.int .i64 t.kind, .string t.name, .string t.other, .int .i64 t.n, .int .i64 t.type.kind, .slice l.ta l.tn l.tc, .int .i64 t.res.kind, .slice l.ra l.rn l.rc, .slice l.aa l.an l.ac] 29)) t l := h.below (below_new _ _)
  have hv : t.plain = (t.ok && t.all plainS) := by first | exact t.plain_eq | rfl
  cases ho : t.ok with
  | false =>
    have C := specIsTerm_any t l _ h1 hw
    rw [ho] at C hv
    replace C := hide C
    replace hv := hide hv
    clear ho
    go_enter Tryz.func9, Tryz.ntmps9
    go_wp2_with (go_at_call 25; (with_reducible refine C.out.mono ?_); rintro e w1 ⟨rfl, b1⟩)
    go_ret
    exact ⟨ret_bool (by rw [hv.out]; rfl), below_of_alloc b1⟩
  | true =>
    have C := specIsTerm_any t l _ h1 hw
    rw [ho] at C hv
    replace C := hide C
    replace hv := hide hv
    clear ho
    go_enter Tryz.func9, Tryz.ntmps9
    go_wp2_with (first
      | (go_at_call 25; (with_reducible refine C.out.mono ?_); rintro e w1 ⟨rfl, b1⟩
         have B1 := (Blk.new w _ _).under b1
         have h2 := h1.below b1
         obtain ⟨u0, u1, u2, u3, u4, u5, u6, u7, u8⟩ := B1.nine)
      | (go_at_call 31; (with_reducible refine (l8Plain_any t l _ h2 hw).mono ?_); rintro e w2 ⟨rfl, b2⟩))
    go_ret
    exact ⟨ret_bool (by rw [hv.out]; rfl), below_next (below_of_alloc b1) b2⟩
set_option maxHeartbeats 800000 in
theorem implIsPlain_any (t : Tm) (l : Lt) (w : World) (h : Md w t l) (hw : t.wt ≤ 1048576) :
    Calls Tryz.prog 8 #[.agg #[.int .i64 t.kind, .string t.name, .string t.other, .int .i64 t.n, .int .i64 t.type.kind, .slice l.ta l.tn l.tc, .int .i64 t.res.kind, .slice l.ra l.rn l.rc, .slice l.aa l.an l.ac]] w fun e w' => e = .returned (.bool t.plain) ∧ Below w.heap.size w w' := by
  have h1 : Md (w.alloc (.cells #[.int .i64 t.kind, .string t.name, .string t.other, .int .i64 t.n, .int .i64 t.type.kind, .slice l.ta l.tn l.tc, .int .i64 t.res.kind, .slice l.ra l.rn l.rc, .slice l.aa l.an l.ac] 29)) t l := h.below (below_new _ _)
  have hv : t.plain = (t.ok && t.all Tm.plainNode) := by first | exact t.plain_eq | rfl
  cases ho : t.ok with
  | false =>
    have C := implIsTerm_any t l _ h1 hw
    rw [ho] at C hv
    replace C := hide C
    replace hv := hide hv
    clear ho
    go_enter Tryz.func8, Tryz.ntmps8
    go_wp2_with (go_at_call 21; (with_reducible refine C.out.mono ?_); rintro e w1 ⟨rfl, b1⟩)
    go_ret
    exact ⟨ret_bool (by rw [hv.out]; rfl), below_of_alloc b1⟩
  | true =>
    have C := implIsTerm_any t l _ h1 hw
    rw [ho] at C hv
    replace C := hide C
    replace hv := hide hv
    clear ho
    go_enter Tryz.func8, Tryz.ntmps8
    go_wp2_with (first
      | (go_at_call 21; (with_reducible refine C.out.mono ?_); rintro e w1 ⟨rfl, b1⟩
         have B1 := (Blk.new w _ _).under b1
         have h2 := h1.below b1
         obtain ⟨u0, u1, u2, u3, u4, u5, u6, u7, u8⟩ := B1.nine)
      | (go_at_call 27; (with_reducible refine (allTerms_plainNode_any t l _ h2 hw).mono ?_); rintro e w2 ⟨rfl, b2⟩))
    go_ret
    exact ⟨ret_bool (by rw [hv.out]; rfl), below_next (below_of_alloc b1) b2⟩
end Go.Proofs.YtklifieahcoljaaGreat

namespace Go.Proofs.YtklifieahcoljaaGreat
open Go.RowKit
set_option linter.unusedVariables false
set_option linter.unusedSimpArgs false

mutual
/-- The number of nodes that have the property. -/
def Tm.count (p : Tm → Bool) : Tm → Nat
  | ⟨k, nm, ot, n, ty, re, xs⟩ => (p ⟨k, nm, ot, n, ty, re, xs⟩).toNat + Tm.counts p xs
def Tm.counts (p : Tm → Bool) : List Tm → Nat
  | [] => 0
  | t :: ts => t.count p + Tm.counts p ts
end
theorem Tm.count_eq (p : Tm → Bool) (t : Tm) : t.count p = (p t).toNat + Tm.counts p t.args := by cases t; rw [Tm.count]
theorem Tm.counts_append (p : Tm → Bool) (xs ys : List Tm) : Tm.counts p (xs ++ ys) = Tm.counts p xs + Tm.counts p ys := by
  induction xs with
  | nil => simp [Tm.counts]
  | cons a xs ih => simp [Tm.counts, ih]; omega
theorem Tm.counts_take (p : Tm → Bool) (xs : List Tm) (k : Nat) (h : k < xs.length) : Tm.counts p (xs.take (k + 1)) = Tm.counts p (xs.take k) + xs[k].count p := by
  rw [take_snoc xs k h, Tm.counts_append]
  simp [Tm.counts]
theorem Tm.counts_le_of (p : Tm → Bool) (xs : List Tm) (h : ∀ t ∈ xs, t.count p ≤ t.size) : Tm.counts p xs ≤ Tm.sizes xs := by
  induction xs with
  | nil => simp [Tm.counts]
  | cons x xs ih =>
    have h1 := h x (by simp)
    have h2 := ih fun t ht => h t (by simp [ht])
    simp only [Tm.counts, Tm.sizes]
    omega
theorem Tm.count_le (p : Tm → Bool) (t : Tm) : t.count p ≤ t.size := by
  induction t using Tm.ind' with | h t ih => ?_
  have := Tm.counts_le_of p t.args ih
  have h1 := t.count_eq p
  have h2 := t.size_eq
  have h3 := Bool.toNat_le (p t)
  omega
theorem Tm.counts_le (p : Tm → Bool) (xs : List Tm) : Tm.counts p xs ≤ Tm.sizes xs := Tm.counts_le_of p xs fun t _ => t.count_le p
theorem Tm.counts_zero_of (p : Tm → Bool) (xs : List Tm) (h : ∀ t ∈ xs, (t.count p = 0 ↔ t.all (fun x => !p x) = true)) : Tm.counts p xs = 0 ↔ xs.all (Tm.all fun x => !p x) = true := by
  induction xs with
  | nil => simp [Tm.counts]
  | cons x xs ih =>
    have h1 := h x (by simp)
    have h2 := ih fun t ht => h t (by simp [ht])
    simp only [Tm.counts, List.all_cons, Bool.and_eq_true, ← h1, ← h2]
    omega
theorem Tm.count_zero (p : Tm → Bool) (t : Tm) : t.count p = 0 ↔ t.all (fun x => !p x) = true := by
  induction t using Tm.ind' with | h t ih => ?_
  have h1 := Tm.counts_zero_of p t.args ih
  rw [Tm.count_eq, Tm.all_eq, Bool.and_eq_true, ← h1]
  cases p t <;> simp
theorem bitI_nat (b : Bool) : bitI b = (b.toNat : Int) := by cases b <;> rfl

/-- An application; a splice; a stage. -/
def Tm.isApp (t : Tm) : Bool := t.kind == 7
def Tm.isSplice (t : Tm) : Bool := t.kind == 11
def Tm.isStage (t : Tm) : Bool := inB t.kind 10 13
theorem lit_Tm.isSplice (t : Tm) (l : Lt) (w : World) (h : Md w t l) : Calls Tryz.prog 35 #[.agg #[.int .i64 t.kind, .string t.name, .string t.other, .int .i64 t.n, .int .i64 t.type.kind, .slice l.ta l.tn l.tc, .int .i64 t.res.kind, .slice l.ra l.rn l.rc, .slice l.aa l.an l.ac]] w fun e w' => e = .returned (.bool (Tm.isSplice t)) ∧ Below w.heap.size w w' := by
  go_enter Tryz.func35, Tryz.ntmps35
  go_wp2_with fail
  go_ret
  exact ⟨rfl, below_new _ _⟩
set_option maxHeartbeats 1600000 in
theorem specCountSplices_any (t : Tm) : ∀ (l : Lt) (w : World), Md w t l → Tm.sizes t.args ≤ 1048576 →
    Calls Tryz.prog 13 #[.agg #[.int .i64 t.kind, .string t.name, .string t.other, .int .i64 t.n, .int .i64 t.type.kind, .slice l.ta l.tn l.tc, .int .i64 t.res.kind, .slice l.ra l.rn l.rc, .slice l.aa l.an l.ac]] w fun e w' => e = .returned (.int .i64 (t.count Tm.isSplice : Int)) ∧ Below w.heap.size w w' := by
  induction t using Tm.ind' with | h t ih => ?_
  intro l w h hl
  have IH := hide ih
  clear ih
  obtain ⟨h0, ht, hrr, hr⟩ := h.shape
  clear ht hrr
  have hn : l.an ≤ 1048576 := by
    have := Tm.length_le_sizes t.args
    have h1 : l.an = t.args.length := hr.1
    omega
  have hce := hide (t.count_eq Tm.isSplice)
  go_enter Tryz.func13, Tryz.ntmps13
  go_wp2_with (go_at_call 36; (with_reducible refine (specl1Bit_any _ _).mono ?_); rintro e w1 ⟨rfl, rfl⟩)
  go_loopw [3, 4] (fun s i wr => ∃ j : Nat, j ≤ l.an ∧ i = .int .i64 j ∧ (∃ q : Nat, q ≤ 1048577 ∧ s = .int .i64 (q : Int) ∧ Hid (q = (Tm.isSplice t).toNat + Tm.counts Tm.isSplice (t.args.take j))) ∧ Blk wr w.heap.size 29 #[.int .i64 t.kind, .string t.name, .string t.other, .int .i64 t.n, .int .i64 t.type.kind, .slice l.ta l.tn l.tc, .int .i64 t.res.kind, .slice l.ra l.rn l.rc, .slice l.aa l.an l.ac] ∧ Below w.heap.size w wr) (fun _ i _ => l.an - (intOf i).toNat)
  case atStart => exact ⟨0, by omega, rfl, ⟨(Tm.isSplice t).toNat, by have := Bool.toNat_le (Tm.isSplice t); omega, by first | (rw [bitI_nat]; done) | (rw [bitI_nat]; rfl), by simp [Hid, Tm.counts]⟩, Blk.new _ _ _, below_new _ _⟩
  case round =>
    obtain ⟨j, hj, rfl, ⟨q, hq, rfl, Hq⟩, hB, hb⟩ := hrel
    have hsz := hb.size
    have hcell8 := (hB.nine).2.2.2.2.2.2.2.2
    by_cases hjn : j < l.an
    · have hjx : j < t.args.length := by rw [← hr.1]; exact hjn
      obtain ⟨b, off, l', ha, hlt, hc, hd⟩ := (hr.below hb).get j hjx
      obtain ⟨e0, e1, e2, e3, e4, e5, e6, e7, e8⟩ := hc.nine
      clear hc
      rw [ha] at hcell8 ⊢
      have hz : Tm.sizes t.args[j].args ≤ 1048576 ∧ q + t.args[j].count Tm.isSplice ≤ 1048577 := by
        have h1 := Tm.sizes_take t.args j hjx
        have h2 := Tm.sizes_take_le t.args (j + 1)
        have h3 := Hq.out
        have h4 := Tm.size_eq t.args[j]
        have h5 := Tm.counts_le Tm.isSplice (t.args.take j)
        have h6 := Tm.count_le Tm.isSplice t.args[j]
        have h7 := Bool.toNat_le (Tm.isSplice t)
        omega
      obtain ⟨hz1, hz2⟩ := hz
      go_wp2_with (go_at_call 13; (with_reducible refine (IH.out _ (List.getElem_mem hjx) _ _ hd hz1).mono ?_); rintro e w' ⟨rfl, hb'⟩)
      go_roundw
      case rel =>
        refine ⟨j + 1, by omega, by go_num, ⟨q + t.args[j].count Tm.isSplice, hz2, by go_num, ?_⟩, (by have hB2 := hB.under hb'; rw [ha] at hB2; exact hB2), hb.trans (by repeat (first | exact Below.refl _ _ | refine Below.drew ?_ | refine below_drewN ?_ _ | refine Below.alloc ?_ (by first | omega | (simp; done) | (simp; omega)) _ | refine Below.setCell ?_ (by first | omega | (simp; done) | (simp; omega)) _ | refine Below.trans ?_ (Below.mono hb' (by first | omega | (simp; done) | (simp; omega)))))⟩
        have h1 := Tm.counts_take Tm.isSplice t.args j hjx
        have h3 := Hq.out
        unfold Hid
        omega
      case measure => simp [intOf]; omega
    · go_wp2
      go_ret
      refine ⟨ret_int ?_, hb⟩
      have h3 := Hq.out
      have h4 : l.an = t.args.length := hr.1
      rw [List.take_of_length_le (by omega)] at h3
      rw [hce.out]
      simp only [h3]

set_option maxHeartbeats 1600000 in
theorem implcount_isSplice (t : Tm) : ∀ (l : Lt) (w : World), Md w t l → Tm.sizes t.args ≤ 1048576 →
    Calls Tryz.prog 34 #[.agg #[.int .i64 t.kind, .string t.name, .string t.other, .int .i64 t.n, .int .i64 t.type.kind, .slice l.ta l.tn l.tc, .int .i64 t.res.kind, .slice l.ra l.rn l.rc, .slice l.aa l.an l.ac], .func (.func 35) #[] #[]] w fun e w' => e = .returned (.int .i64 (t.count Tm.isSplice : Int)) ∧ Below w.heap.size w w' := by
  induction t using Tm.ind' with | h t ih => ?_
  intro l w h hl
  have IH := hide ih
  clear ih
  obtain ⟨h0, ht, hrr, hr⟩ := h.shape
  clear ht hrr
  have hn : l.an ≤ 1048576 := by
    have := Tm.length_le_sizes t.args
    have h1 : l.an = t.args.length := hr.1
    omega
  have hce := hide (t.count_eq Tm.isSplice)
  go_enter Tryz.func34, Tryz.ntmps34
  have hA := h.below (below_new w (.cells #[.int .i64 t.kind, .string t.name, .string t.other, .int .i64 t.n, .int .i64 t.type.kind, .slice l.ta l.tn l.tc, .int .i64 t.res.kind, .slice l.ra l.rn l.rc, .slice l.aa l.an l.ac] 29))
  go_wp2_with (first
    | (go_at_call 35; (with_reducible refine (lit_Tm.isSplice t l _ hA).mono ?_); rintro e w1 ⟨rfl, b1⟩; have B1 := ((Blk.new w _ _).under b1).nine.2.2.2.2.2.2.2.2)
    | (go_at_call 63; (with_reducible refine (implbit_any _ _).mono ?_); rintro e w2 ⟨rfl, rfl⟩))
  go_loopw [5, 15] (fun s i wr => ∃ j : Nat, j ≤ l.an ∧ i = .int .i64 j ∧ (∃ q : Nat, q ≤ 1048577 ∧ s = .int .i64 (q : Int) ∧ Hid (q = (Tm.isSplice t).toNat + Tm.counts Tm.isSplice (t.args.take j))) ∧ Below w.heap.size w wr) (fun _ i _ => l.an - (intOf i).toNat)
  case atStart => exact ⟨0, by omega, rfl, ⟨(Tm.isSplice t).toNat, by have := Bool.toNat_le (Tm.isSplice t); omega, by first | (rw [bitI_nat]; done) | (rw [bitI_nat]; rfl), by simp [Hid, Tm.counts]⟩, below_of_alloc b1⟩
  case round =>
    obtain ⟨j, hj, rfl, ⟨q, hq, rfl, Hq⟩, hb⟩ := hrel
    have hsz := hb.size
    by_cases hjn : j < l.an
    · have hjx : j < t.args.length := by rw [← hr.1]; exact hjn
      obtain ⟨b, off, l', ha, hlt, hc, hd⟩ := (hr.below hb).get j hjx
      obtain ⟨e0, e1, e2, e3, e4, e5, e6, e7, e8⟩ := hc.nine
      clear hc
      rw [ha]
      have hz : Tm.sizes t.args[j].args ≤ 1048576 ∧ q + t.args[j].count Tm.isSplice ≤ 1048577 := by
        have h1 := Tm.sizes_take t.args j hjx
        have h2 := Tm.sizes_take_le t.args (j + 1)
        have h3 := Hq.out
        have h4 := Tm.size_eq t.args[j]
        have h5 := Tm.counts_le Tm.isSplice (t.args.take j)
        have h6 := Tm.count_le Tm.isSplice t.args[j]
        have h7 := Bool.toNat_le (Tm.isSplice t)
        omega
      obtain ⟨hz1, hz2⟩ := hz
      go_wp2_with (go_at_call 34; (with_reducible refine (IH.out _ (List.getElem_mem hjx) _ _ (hd.below (by repeat (first | exact Below.refl _ _ | assumption | refine Below.drew ?_ | refine below_drewN ?_ _ | refine Below.alloc ?_ (by first | omega | (simp; done) | (simp; omega)) _ | refine Below.setCell ?_ (by first | omega | (simp; done) | (simp; omega)) _))) hz1).mono ?_); rintro e w' ⟨rfl, hb'⟩)
      go_roundw
      case rel =>
        refine ⟨j + 1, by omega, by go_num, ⟨q + t.args[j].count Tm.isSplice, hz2, by go_num, ?_⟩, hb.trans (by repeat (first | exact Below.refl _ _ | refine Below.drew ?_ | refine below_drewN ?_ _ | refine Below.alloc ?_ (by first | omega | (simp; done) | (simp; omega)) _ | refine Below.setCell ?_ (by first | omega | (simp; done) | (simp; omega)) _ | refine Below.trans ?_ (Below.mono hb' (by first | omega | (simp; done) | (simp; omega)))))⟩
        have h1 := Tm.counts_take Tm.isSplice t.args j hjx
        have h3 := Hq.out
        unfold Hid
        omega
      case measure => simp [intOf]; omega
    · go_wp2
      go_ret
      refine ⟨ret_int ?_, hb⟩
      have h3 := Hq.out
      have h4 : l.an = t.args.length := hr.1
      rw [List.take_of_length_le (by omega)] at h3
      rw [hce.out]
      simp only [h3]

end Go.Proofs.YtklifieahcoljaaGreat

namespace Go.Proofs.YtklifieahcoljaaGreat
open Go.RowKit
set_option linter.unusedVariables false
set_option linter.unusedSimpArgs false

theorem implCountSplices_any (t : Tm) (l : Lt) (w : World) (h : Md w t l) (hz : Tm.sizes t.args ≤ 1048576) :
    Calls Tryz.prog 12 #[.agg #[.int .i64 t.kind, .string t.name, .string t.other, .int .i64 t.n, .int .i64 t.type.kind, .slice l.ta l.tn l.tc, .int .i64 t.res.kind, .slice l.ra l.rn l.rc, .slice l.aa l.an l.ac]] w fun e w' => e = .returned (.int .i64 (t.count Tm.isSplice : Int)) ∧ Below w.heap.size w w' := by
  have C := hide (implcount_isSplice t l _ (h.below (below_new w (.cells #[.int .i64 t.kind, .string t.name, .string t.other, .int .i64 t.n, .int .i64 t.type.kind, .slice l.ta l.tn l.tc, .int .i64 t.res.kind, .slice l.ra l.rn l.rc, .slice l.aa l.an l.ac] 29))) hz)
  go_enter Tryz.func12, Tryz.ntmps12
  go_wp2_with (go_at_call 34; (with_reducible refine C.out.mono ?_); rintro e w1 ⟨rfl, b1⟩)
  go_ret
  exact ⟨rfl, below_of_alloc b1⟩

end Go.Proofs.YtklifieahcoljaaGreat
