/-
  The walks of szTerm and szTermS: they take from 'left' what a term weighs, -1 where that is more.
-/
import Derived.Test.YtiofojaifonefaaDoorTm
import Derived.Test.YtiofojaifonefaaDoorSz
namespace Go.Proofs.YtiofojaifonefaaDoor
open Go.RowKit
set_option linter.unusedVariables false
set_option linter.unusedSimpArgs false

mutual
/-- What szTerm counts. -/
def Tm.wt : Tm → Nat
  | ⟨_, nm, ot, _, ty, re, xs⟩ => nm.size + ot.size + Ty.sizes ty.args + Ty.sizes re.args + Tm.wts xs
def Tm.wts : List Tm → Nat
  | [] => 0
  | t :: ts => 1 + t.wt + Tm.wts ts
end
theorem Tm.wt_eq (t : Tm) : t.wt = t.name.size + t.other.size + Ty.sizes t.type.args + Ty.sizes t.res.args + Tm.wts t.args := by cases t; rw [Tm.wt]
theorem Tm.wts_append (xs ys : List Tm) : Tm.wts (xs ++ ys) = Tm.wts xs + Tm.wts ys := by
  induction xs with
  | nil => simp [Tm.wts]
  | cons a xs ih => simp [Tm.wts, ih]; omega
theorem Tm.length_le_wts (xs : List Tm) : xs.length ≤ Tm.wts xs := by
  induction xs with
  | nil => simp
  | cons x xs ih => simp [Tm.wts]; omega
theorem Tm.wts_take (xs : List Tm) (k : Nat) (h : k < xs.length) : Tm.wts (xs.take (k + 1)) = Tm.wts (xs.take k) + (1 + xs[k].wt) := by
  rw [take_snoc xs k h, Tm.wts_append]
  simp [Tm.wts]
theorem Tm.wts_take_le (xs : List Tm) (k : Nat) : Tm.wts (xs.take k) + (xs.length - k) ≤ Tm.wts xs := by
  have h := Tm.wts_append (xs.take k) (xs.drop k)
  rw [List.take_append_drop] at h
  have := Tm.length_le_wts (xs.drop k)
  simp at this
  omega
theorem Tm.sizes_le_wts (xs : List Tm) (h : ∀ t ∈ xs, Tm.sizes t.args ≤ t.wt) : Tm.sizes xs ≤ Tm.wts xs := by
  induction xs with
  | nil => simp [Tm.sizes]
  | cons x xs ih =>
    have h1 := h x (by simp)
    have h2 := ih fun t ht => h t (by simp [ht])
    have h3 := x.size_eq
    simp only [Tm.sizes, Tm.wts]
    omega
theorem Tm.args_le_wt (t : Tm) : Tm.sizes t.args ≤ t.wt := by
  induction t using Tm.ind' with | h t ih => ?_
  have := Tm.sizes_le_wts t.args ih
  have := t.wt_eq
  omega

set_option maxHeartbeats 400000 in
theorem szTermS_of (xs : List Tm)
    (ih : ∀ t ∈ xs, ∀ (l : Lt) (left : Int) (w : World), Md w t l → 0 ≤ left → left ≤ 1048576 →
      Calls Tryd.prog 5 #[.agg #[.int .i64 t.kind, .string t.name, .string t.other, .int .i64 t.n, .int .i64 t.type.kind, .slice l.ta l.tn l.tc, .int .i64 t.res.kind, .slice l.ra l.rn l.rc, .slice l.aa l.an l.ac], .int .i64 left] w fun e w' => e = .returned (.int .i64 (lessN t.wt left)) ∧ Below w.heap.size w w')
    (a : Option Addr) (n cap : Nat) (left : Int) (w : World) (h : Mds w xs a n cap) (hl0 : 0 ≤ left) (hl1 : left ≤ 1048576) :
    Calls Tryd.prog 13 #[.slice a n cap, .int .i64 left] w fun e w' => e = .returned (.int .i64 (lessN (Tm.wts xs) left)) ∧ Below w.heap.size w w' := by
  have IH := hide ih
  clear ih
  have hn : n ≤ 9223372036854775807 := by obtain ⟨_, h2, h3, _⟩ := h; unfold maxLen at h3; omega
  by_cases hlt : left < n
  · go_enter Tryd.func13, Tryd.ntmps13
    go_wp2
    go_ret
    have hs := Tm.length_le_wts xs
    have := h.1
    exact ⟨ret_int (lessN_neg (by omega)).symm, Below.refl _ _⟩
  · have hd : decide (left - (n : Int) < 0) = false := by simp; omega
    go_enter Tryd.func13, Tryd.ntmps13
    go_wp2_with fail
    go_loopw [1, 5] (fun l i wr => ∃ k : Nat, k ≤ n ∧ i = .int .i64 k ∧ (∃ s : Int, l = .int .i64 s ∧ 0 ≤ s ∧ s ≤ left ∧ Hid (s = left - n + k - Tm.wts (xs.take k))) ∧ Below w.heap.size w wr) (fun _ i _ => n - (intOf i).toNat)
    case atStart => exact ⟨0, by omega, rfl, ⟨_, rfl, by omega, by omega, by simp [Hid, Tm.wts]⟩, Below.refl _ _⟩
    case round =>
      obtain ⟨k, hk, rfl, ⟨s, rfl, hs0, hs1, Hs⟩, hb⟩ := hrel
      by_cases hkn : k < n
      · have hkx : k < xs.length := by rw [← h.1]; exact hkn
        have hx := (h.below hb).get k hkx
        obtain ⟨b, off, l, rfl, hlt', hc, hr⟩ := hx
        obtain ⟨e0, e1, e2, e3, e4, e5, e6, e7, e8⟩ := hc.nine
        clear hc
        go_wp2_with (go_at_call 5; refine (IH.out _ (List.getElem_mem hkx) _ _ _ hr hs0 (by omega)).mono ?_; rintro e w' ⟨rfl, hb'⟩)
        · go_ret
          have hneg := lessN_lt hs0 ‹lessN xs[k].wt s < 0›
          have h1 := Tm.wts_take xs k hkx
          have h2 := Tm.wts_take_le xs (k + 1)
          have h3 := Hs.out
          have h4 := h.1
          exact ⟨ret_int (lessN_neg (by omega)).symm, hb.trans (hb'.mono hb.size)⟩
        · have hle := lessN_ge ‹0 ≤ lessN xs[k].wt s›
          go_roundw
          case rel =>
            refine ⟨k + 1, by omega, by go_num, ⟨_, by rw [lessN_pos hle], by omega, by omega, ?_⟩, hb.trans (hb'.mono hb.size)⟩
            have h1 := Tm.wts_take xs k hkx
            have h3 := Hs.out
            unfold Hid
            omega
          case measure => simp [intOf]; omega
      · go_wp2
        go_ret
        have h3 := Hs.out
        have h4 := h.1
        rw [List.take_of_length_le (by omega)] at h3
        exact ⟨ret_int (by rw [lessN_pos (by omega)]; omega), hb⟩

set_option maxHeartbeats 800000 in
theorem szTerm_any (t : Tm) : ∀ (l : Lt) (left : Int) (w : World), Md w t l → 0 ≤ left → left ≤ 1048576 →
    Calls Tryd.prog 5 #[.agg #[.int .i64 t.kind, .string t.name, .string t.other, .int .i64 t.n, .int .i64 t.type.kind, .slice l.ta l.tn l.tc, .int .i64 t.res.kind, .slice l.ra l.rn l.rc, .slice l.aa l.an l.ac], .int .i64 left] w fun e w' => e = .returned (.int .i64 (lessN t.wt left)) ∧ Below w.heap.size w w' := by
  induction t using Tm.ind' with | h t ih => ?_
  intro l left w h hl0 hl1
  have C := hide (szTermS_of t.args ih)
  clear ih
  obtain ⟨⟨hk, hn, hs1, hs2⟩, ht, hr, hm⟩ := h.shape
  have hwt := hide t.wt_eq
  have ht' := fun o => ht.below (below_new w o)
  have hr' := fun o => hr.below (below_new w o)
  have hm' := fun o => hm.below (below_new w o)
  clear ht hr hm h
  by_cases h1 : left < t.name.size
  · have hd1 : decide (left - (t.name.size : Int) < 0) = true := by simp; omega
    go_enter Tryd.func5, Tryd.ntmps5
    go_wp2_with fail
    go_ret
    exact ⟨ret_int (lessN_neg (by have := hwt.out; omega)).symm, below_new _ _⟩
  · have hd1 : decide (left - (t.name.size : Int) < 0) = false := by simp; omega
    by_cases h2 : left - t.name.size < t.other.size
    · have hd2 : decide (left - (t.name.size : Int) - (t.other.size : Int) < 0) = true := by simp; omega
      go_enter Tryd.func5, Tryd.ntmps5
      go_wp2_with fail
      go_ret
      exact ⟨ret_int (lessN_neg (by have := hwt.out; omega)).symm, below_new _ _⟩
    · have hd2 : decide (left - (t.name.size : Int) - (t.other.size : Int) < 0) = false := by simp; omega
      go_enter Tryd.func5, Tryd.ntmps5
      go_wp2_with fail
      refine (szType_any t.type _ _ _ _ (ht' _) (by omega) (by omega)).mono ?_
      rintro e w1 ⟨rfl, b1⟩
      have B1 := (Blk.new w _ _).under b1
      obtain ⟨u0, u1, u2, u3, u4, u5, u6, u7, u8⟩ := B1.nine
      go_wp2_with fail
      · go_ret
        rename_i hneg
        have := lessN_lt (by omega) hneg
        exact ⟨ret_int (lessN_neg (by have := hwt.out; omega)).symm, below_of_alloc b1⟩
      · have hpos : 0 ≤ lessN (Ty.sizes t.type.args) (left - (t.name.size : Int) - (t.other.size : Int)) := by assumption
        have hle := lessN_ge hpos
        rw [lessN_pos hle]
        refine (szType_any t.res _ _ _ _ ((hr' _).below b1) (by omega) (by omega)).mono ?_
        rintro e w2 ⟨rfl, b2⟩
        have B2 := B1.under b2
        clear u0 u1 u2 u3 u4 u5 u6 u7 u8
        obtain ⟨u0, u1, u2, u3, u4, u5, u6, u7, u8⟩ := B2.nine
        go_wp2_with fail
        · go_ret
          rename_i hneg
          have := lessN_lt (by omega) hneg
          exact ⟨ret_int (lessN_neg (by have := hwt.out; omega)).symm, below_next (below_of_alloc b1) b2⟩
        · have hpos2 : 0 ≤ lessN (Ty.sizes t.res.args) (left - (t.name.size : Int) - (t.other.size : Int) - (Ty.sizes t.type.args : Int)) := by assumption
          have hle2 := lessN_ge hpos2
          rw [lessN_pos hle2]
          refine (C.out _ _ _ _ _ (((hm' _).below b1).below b2) (by omega) (by omega)).mono ?_
          rintro e w3 ⟨rfl, b3⟩
          go_wp2_with fail
          · go_ret
            rename_i hneg
            have := lessN_lt (by omega) hneg
            exact ⟨ret_int (lessN_neg (by have := hwt.out; omega)).symm, below_next (below_next (below_of_alloc b1) b2) b3⟩
          · go_ret
            rename_i hpos3
            have hle3 := lessN_ge hpos3
            exact ⟨ret_int (by rw [lessN_pos hle3, lessN_pos (by have := hwt.out; omega)]; have := hwt.out; omega), below_next (below_next (below_of_alloc b1) b2) b3⟩
end Go.Proofs.YtiofojaifonefaaDoor
