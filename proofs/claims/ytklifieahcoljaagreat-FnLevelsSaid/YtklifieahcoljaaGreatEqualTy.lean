/-
  The walks of EqualType in both texts: they answer whether the two trees are one.
-/
import Derived.Test.YtklifieahcoljaaGreatRep
import Derived.Test.YtklifieahcoljaaGreatRows
import Derived.LoopTactic
import Derived.Outline
import Derived.StillTailTactics
namespace Go.Proofs.YtklifieahcoljaaGreat
open Go.RowKit
set_option maxRecDepth 100000
set_option linter.unusedVariables false

set_option maxHeartbeats 800000 in
theorem specEqualType_any (t : Ty) : ∀ (u : Ty) (c0 c1 d0 d1 : Value) (w : World), Rd w t c0 c1 → Rd w u d0 d1 →
    Calls Tryz.prog 94 #[.agg #[c0, c1], .agg #[d0, d1]] w fun e w' => e = .returned (.bool (t.beq u)) ∧ Below w.heap.size w w' := by
  induction t using Ty.ind with | h k xs ih => ?_
  intro u c0 c1 d0 d1 w h h'
  obtain ⟨l, ys⟩ := u
  have IH := hide ih
  clear ih
  obtain ⟨a, n, cap, rfl, rfl, hk, hr⟩ := h.shape
  obtain ⟨a', n', cap', rfl, rfl, hk', hr'⟩ := h'.shape
  have hn : n ≤ 9223372036854775807 := by obtain ⟨_, h2, h3, _⟩ := hr; unfold maxLen at h3; omega
  have hn' : n' ≤ 9223372036854775807 := by obtain ⟨_, h2, h3, _⟩ := hr'; unfold maxLen at h3; omega
  by_cases hkl : k = l
  · subst hkl
    by_cases hnn : n = n'
    · subst hnn
      go_enter Tryz.func94, Tryz.ntmps94
      go_wp2_with fail
      go_loopw [5] (fun i wr => ∃ j : Nat, j ≤ n ∧ i = .int .i64 j ∧ Hid (∀ i (h : i < xs.length) (h' : i < ys.length), i < j → xs[i].beq ys[i] = true) ∧ Blk wr w.heap.size 26 #[.int .i64 k, .slice a n cap] ∧ Blk wr (w.heap.size + 1) 26 #[.int .i64 k, .slice a' n cap'] ∧ Below w.heap.size w wr) (fun i _ => n - (intOf i).toNat)
      case atStart => exact ⟨0, by omega, rfl, fun i _ _ hi => by omega, (Blk.new w _ _).alloc _, Blk.new2 _ _ _ _, (by repeat (first | exact Below.refl _ _ | assumption | refine Below.drew ?_ | refine below_drewN ?_ _ | refine Below.alloc ?_ (by first | omega | (simp; done) | (simp; omega)) _ | refine Below.setCell ?_ (by first | omega | (simp; done) | (simp; omega)) _))⟩
      case round =>
        obtain ⟨j, hj, rfl, HR, hB, hB', hb⟩ := hrel
        have hsz := hb.size
        obtain ⟨-, v1⟩ := hB.two
        obtain ⟨-, v2⟩ := hB'.two
        by_cases hjn : j < n
        · have hjx : j < xs.length := by rw [← hr.1]; exact hjn
          have hjy : j < ys.length := by rw [← hr'.1]; exact hjn
          obtain ⟨b, off, e0, e1, rfl, hlt, q0, q1, hd⟩ := (hr.below hb).get j hjx
          obtain ⟨b', off', f0, f1, rfl, hlt', p0, p1, hd'⟩ := (hr'.below hb).get j hjy
          go_wp2_with fail
          go_still_tail 10, (by kernel_rfl)
          change wpList _ _ _ _ _ wr.drew
          go_wp2_with (go_at_call 94; refine (IH.out _ (List.getElem_mem _) ys[j] _ _ _ _ _ (hd.below (below_drew _)) (hd'.below (below_drew _))).mono ?_; rintro e w' ⟨rfl, hb'⟩)
          · have hno : xs[j].beq ys[j] = false := by simpa using ‹(!xs[j].beq ys[j]) = true›
            go_ret
            exact ⟨ret_bool (by rw [Ty.beq, Ty.beqs_no hjx hjy hno]; simp), hb.trans (by repeat (first | exact Below.refl _ _ | refine Below.drew ?_ | refine below_drewN ?_ _ | refine Below.alloc ?_ (by first | omega | (simp; done) | (simp; omega)) _ | refine Below.setCell ?_ (by first | omega | (simp; done) | (simp; omega)) _ | refine Below.trans ?_ (Below.mono hb' (by first | omega | (simp; done) | (simp; omega)))))⟩
          · have hyes : xs[j].beq ys[j] = true := by simpa using ‹(!xs[j].beq ys[j]) = false›
            go_roundw
            case rel =>
              refine ⟨j + 1, by omega, by go_num, fun i hi hi' hij => ?_, hB.under (by repeat (first | exact Below.refl _ _ | refine Below.drew ?_ | refine below_drewN ?_ _ | refine Below.alloc ?_ (by first | omega | (simp; done) | (simp; omega)) _ | refine Below.setCell ?_ (by first | omega | (simp; done) | (simp; omega)) _ | refine Below.trans ?_ (Below.mono hb' (by first | omega | (simp; done) | (simp; omega))))), hB'.under (by repeat (first | exact Below.refl _ _ | refine Below.drew ?_ | refine below_drewN ?_ _ | refine Below.alloc ?_ (by first | omega | (simp; done) | (simp; omega)) _ | refine Below.setCell ?_ (by first | omega | (simp; done) | (simp; omega)) _ | refine Below.trans ?_ (Below.mono hb' (by first | omega | (simp; done) | (simp; omega))))), hb.trans (by repeat (first | exact Below.refl _ _ | refine Below.drew ?_ | refine below_drewN ?_ _ | refine Below.alloc ?_ (by first | omega | (simp; done) | (simp; omega)) _ | refine Below.setCell ?_ (by first | omega | (simp; done) | (simp; omega)) _ | refine Below.trans ?_ (Below.mono hb' (by first | omega | (simp; done) | (simp; omega)))))⟩
              by_cases hij' : i < j
              · exact HR.out i hi hi' hij'
              · obtain rfl : i = j := by omega
                exact hyes
            case measure => simp [intOf]; omega
        · go_wp2
          go_ret
          have hx1 : n = xs.length := hr.1
          have hx2 : n = ys.length := hr'.1
          refine ⟨ret_bool ?_, hb⟩
          rw [Ty.beq, beq_self_eq_true, Bool.true_and, eq_comm, Ty.beqs_iff]
          exact ⟨by omega, fun i hi hi' => HR.out i hi hi' (by omega)⟩
    · have hnk : ((n : Int) != (n' : Int)) = true := by simp; omega
      go_enter Tryz.func94, Tryz.ntmps94
      go_wp2
      go_ret
      refine ⟨ret_bool ?_, (by repeat (first | exact Below.refl _ _ | assumption | refine Below.drew ?_ | refine below_drewN ?_ _ | refine Below.alloc ?_ (by first | omega | (simp; done) | (simp; omega)) _ | refine Below.setCell ?_ (by first | omega | (simp; done) | (simp; omega)) _))⟩
      have hx1 : n = xs.length := hr.1
      have hx2 : n' = ys.length := hr'.1
      rw [Ty.beq, Ty.beqs_len (by omega)]
      simp
  · have hnk : (k != l) = true := by simp [hkl]
    go_enter Tryz.func94, Tryz.ntmps94
    go_wp2
    go_ret
    refine ⟨ret_bool ?_, (by repeat (first | exact Below.refl _ _ | assumption | refine Below.drew ?_ | refine below_drewN ?_ _ | refine Below.alloc ?_ (by first | omega | (simp; done) | (simp; omega)) _ | refine Below.setCell ?_ (by first | omega | (simp; done) | (simp; omega)) _))⟩
    rw [Ty.beq, beq_eq_false_iff_ne.2 hkl]
    simp

set_option maxHeartbeats 800000 in
theorem equalFuncType_of (xs : List Ty)
    (ih : ∀ t ∈ xs, ∀ (u : Ty) (c0 c1 d0 d1 : Value) (w : World), Rd w t c0 c1 → Rd w u d0 d1 →
      Calls Tryz.prog 79 #[.agg #[c0, c1], .agg #[d0, d1]] w fun e w' => e = .returned (.bool (t.beq u)) ∧ Below w.heap.size w w')
    (ys : List Ty) (a a' : Option Addr) (n cap n' cap' : Nat) (w : World) (hr : Rds w xs a n cap) (hr' : Rds w ys a' n' cap') :
    Calls Tryz.prog 105 #[.slice a n cap, .slice a' n' cap', .func (.func 79) #[] #[]] w
      fun e w' => e = .returned (.bool (Ty.beqs xs ys)) ∧ Below w.heap.size w w' := by
  have IH := hide ih
  clear ih
  have hn : n ≤ 9223372036854775807 := by obtain ⟨_, h2, h3, _⟩ := hr; unfold maxLen at h3; omega
  have hn' : n' ≤ 9223372036854775807 := by obtain ⟨_, h2, h3, _⟩ := hr'; unfold maxLen at h3; omega
  by_cases hnn : n = n'
  · subst hnn
    go_enter Tryz.func105, Tryz.ntmps105
    go_wp2_with fail
    go_loopw [17] (fun i wr => ∃ j : Nat, j ≤ n ∧ i = .int .i64 j ∧ Hid (∀ i (h : i < xs.length) (h' : i < ys.length), i < j → xs[i].beq ys[i] = true) ∧ Below w.heap.size w wr) (fun i _ => n - (intOf i).toNat)
    case atStart => exact ⟨0, by omega, rfl, fun i _ _ hi => by omega, (by repeat (first | exact Below.refl _ _ | assumption | refine Below.drew ?_ | refine below_drewN ?_ _ | refine Below.alloc ?_ (by first | omega | (simp; done) | (simp; omega)) _ | refine Below.setCell ?_ (by first | omega | (simp; done) | (simp; omega)) _))⟩
    case round =>
      obtain ⟨j, hj, rfl, HR, hb⟩ := hrel
      have hsz := hb.size
      by_cases hjn : j < n
      · have hjx : j < xs.length := by rw [← hr.1]; exact hjn
        have hjy : j < ys.length := by rw [← hr'.1]; exact hjn
        obtain ⟨b, off, xa, xn, xc, rfl, hlt, q0, q1, hd⟩ := (hr.below hb).at_ j hjx
        obtain ⟨b', off', ya, yn, yc, rfl, hlt', p0, p1, hd'⟩ := (hr'.below hb).at_ j hjy
        go_wp2_with (go_at_call 79; refine (IH.out _ (List.getElem_mem _) ys[j] _ _ _ _ _ (hd.below (by repeat (first | exact Below.refl _ _ | assumption | refine Below.drew ?_ | refine below_drewN ?_ _ | refine Below.alloc ?_ (by first | omega | (simp; done) | (simp; omega)) _ | refine Below.setCell ?_ (by first | omega | (simp; done) | (simp; omega)) _))) (hd'.below (by repeat (first | exact Below.refl _ _ | assumption | refine Below.drew ?_ | refine below_drewN ?_ _ | refine Below.alloc ?_ (by first | omega | (simp; done) | (simp; omega)) _ | refine Below.setCell ?_ (by first | omega | (simp; done) | (simp; omega)) _)))).mono ?_; rintro e w' ⟨rfl, hb'⟩)
        · have hno : xs[j].beq ys[j] = false := by simpa using ‹(!xs[j].beq ys[j]) = true›
          go_ret
          exact ⟨ret_bool (Ty.beqs_no hjx hjy hno).symm, hb.trans (by repeat (first | exact Below.refl _ _ | refine Below.drew ?_ | refine below_drewN ?_ _ | refine Below.alloc ?_ (by first | omega | (simp; done) | (simp; omega)) _ | refine Below.setCell ?_ (by first | omega | (simp; done) | (simp; omega)) _ | refine Below.trans ?_ (Below.mono hb' (by first | omega | (simp; done) | (simp; omega)))))⟩
        · have hyes : xs[j].beq ys[j] = true := by simpa using ‹(!xs[j].beq ys[j]) = false›
          go_roundw
          case rel =>
            refine ⟨j + 1, by omega, by go_num, fun i hi hi' hij => ?_, hb.trans (by repeat (first | exact Below.refl _ _ | refine Below.drew ?_ | refine below_drewN ?_ _ | refine Below.alloc ?_ (by first | omega | (simp; done) | (simp; omega)) _ | refine Below.setCell ?_ (by first | omega | (simp; done) | (simp; omega)) _ | refine Below.trans ?_ (Below.mono hb' (by first | omega | (simp; done) | (simp; omega)))))⟩
            by_cases hij' : i < j
            · exact HR.out i hi hi' hij'
            · obtain rfl : i = j := by omega
              exact hyes
          case measure => simp [intOf]; omega
      · go_wp2
        go_ret
        have hx1 : n = xs.length := hr.1
        have hx2 : n = ys.length := hr'.1
        refine ⟨ret_bool ?_, hb⟩
        rw [eq_comm, Ty.beqs_iff]
        exact ⟨by omega, fun i hi hi' => HR.out i hi hi' (by omega)⟩
  · have hnk : ((n : Int) != (n' : Int)) = true := by simp; omega
    go_enter Tryz.func105, Tryz.ntmps105
    go_wp2
    go_ret
    have hx1 : n = xs.length := hr.1
    have hx2 : n' = ys.length := hr'.1
    exact ⟨ret_bool (Ty.beqs_len (by omega)).symm, (by repeat (first | exact Below.refl _ _ | assumption | refine Below.drew ?_ | refine below_drewN ?_ _ | refine Below.alloc ?_ (by first | omega | (simp; done) | (simp; omega)) _ | refine Below.setCell ?_ (by first | omega | (simp; done) | (simp; omega)) _))⟩

set_option maxHeartbeats 800000 in
theorem implEqualType_any (t : Ty) : ∀ (u : Ty) (c0 c1 d0 d1 : Value) (w : World), Rd w t c0 c1 → Rd w u d0 d1 →
    Calls Tryz.prog 79 #[.agg #[c0, c1], .agg #[d0, d1]] w fun e w' => e = .returned (.bool (t.beq u)) ∧ Below w.heap.size w w' := by
  induction t using Ty.ind with | h k xs ih => ?_
  intro u c0 c1 d0 d1 w h h'
  obtain ⟨l, ys⟩ := u
  have IH := hide ih
  clear ih
  obtain ⟨a, n, cap, rfl, rfl, hk, hr⟩ := h.shape
  obtain ⟨a', n', cap', rfl, rfl, hk', hr'⟩ := h'.shape
  by_cases hkl : k = l
  · subst hkl
    go_enter Tryz.func79, Tryz.ntmps79
    go_wp2_with (go_at_call 105; refine (equalFuncType_of xs IH.out _ _ _ _ _ _ _ _ (hr.below (by repeat (first | exact Below.refl _ _ | assumption | refine Below.drew ?_ | refine below_drewN ?_ _ | refine Below.alloc ?_ (by first | omega | (simp; done) | (simp; omega)) _ | refine Below.setCell ?_ (by first | omega | (simp; done) | (simp; omega)) _))) (hr'.below (by repeat (first | exact Below.refl _ _ | assumption | refine Below.drew ?_ | refine below_drewN ?_ _ | refine Below.alloc ?_ (by first | omega | (simp; done) | (simp; omega)) _ | refine Below.setCell ?_ (by first | omega | (simp; done) | (simp; omega)) _)))).mono ?_; rintro e w' ⟨rfl, hb'⟩)
    go_ret
    refine ⟨ret_bool ?_, (by repeat (first | exact Below.refl _ _ | refine Below.drew ?_ | refine below_drewN ?_ _ | refine Below.alloc ?_ (by first | omega | (simp; done) | (simp; omega)) _ | refine Below.setCell ?_ (by first | omega | (simp; done) | (simp; omega)) _ | refine Below.trans ?_ (Below.mono hb' (by first | omega | (simp; done) | (simp; omega)))))⟩
    rw [Ty.beq, beq_self_eq_true]
    rfl
  · have hnk : (k == l) = false := by simp [hkl]
    go_enter Tryz.func79, Tryz.ntmps79
    go_wp2
    go_ret
    refine ⟨ret_bool ?_, (by repeat (first | exact Below.refl _ _ | assumption | refine Below.drew ?_ | refine below_drewN ?_ _ | refine Below.alloc ?_ (by first | omega | (simp; done) | (simp; omega)) _ | refine Below.setCell ?_ (by first | omega | (simp; done) | (simp; omega)) _))⟩
    rw [Ty.beq, beq_eq_false_iff_ne.2 hkl]
    simp
end Go.Proofs.YtklifieahcoljaaGreat
