/-
  The walks of the reference's l3Left and l3Form.
-/
import Derived.Test.YtmdmnchnkfjpjaaLess
import Derived.Test.YtmdmnchnkfjpjaaValTy0
import Derived.Test.YtmdmnchnkfjpjaaPlain
namespace Go.Proofs.Ytmdmnchnkfjpjaa
open Go.RowKit
set_option linter.unusedVariables false
set_option linter.unusedSimpArgs false

set_option maxHeartbeats 800000 in
theorem l3Left_any (t : Ty) : ∀ (c0 c1 : Value) (left : Int) (w : World), Rd w t c0 c1 → 0 ≤ left → left ≤ 1048576 →
    Calls Try.prog 59 #[.agg #[c0, c1], .int .i64 left] w fun e w' => e = .returned (.int .i64 (lessN t.size left)) ∧ Below w.heap.size w w' := by
  induction t using Ty.ind with | h k xs ih => ?_
  intro c0 c1 left w h hl0 hl1
  have IH := hide ih
  clear ih
  obtain ⟨a, n, cap, rfl, rfl, hk, hr⟩ := h.shape
  have hn : n ≤ 9223372036854775807 := by obtain ⟨_, h2, h3, _⟩ := hr; unfold maxLen at h3; omega
  by_cases hz : left = 0
  · subst hz
    go_enter Try.func59, Try.ntmps59
    go_wp2_with fail
    refine wp_loop_rounds 1 ?_
    rw [rounds_succ]
    go_wp2_with fail
    all_goals go_ret
    all_goals exact ⟨ret_int (lessN_neg (by have := Ty.size_pos ⟨k, xs⟩; omega)).symm, (by repeat (first | exact Below.refl _ _ | assumption | refine Below.drew ?_ | refine below_drewN ?_ _ | refine Below.alloc ?_ (by first | omega | (simp; done) | (simp; omega)) _ | refine Below.setCell ?_ (by first | omega | (simp; done) | (simp; omega)) _))⟩
  · go_enter Try.func59, Try.ntmps59
    go_wp2_with fail
    go_loopw [1, 5] (fun l i wr => ∃ j : Nat, j ≤ n ∧ i = .int .i64 j ∧ (∃ s : Int, l = .int .i64 s ∧ -1 ≤ s ∧ s ≤ left ∧ Hid (s = lessN (Ty.sizes (xs.take j)) (left - 1))) ∧ Blk wr w.heap.size 26 #[.int .i64 k, .slice a n cap] ∧ Below w.heap.size w wr) (fun _ i _ => n - (intOf i).toNat)
    case atStart => exact ⟨0, by omega, rfl, ⟨_, rfl, by omega, by omega, by simp [Hid, Ty.sizes]; rw [lessN_zero (by omega)]⟩, Blk.new _ _ _, (by repeat (first | exact Below.refl _ _ | assumption | refine Below.drew ?_ | refine below_drewN ?_ _ | refine Below.alloc ?_ (by first | omega | (simp; done) | (simp; omega)) _ | refine Below.setCell ?_ (by first | omega | (simp; done) | (simp; omega)) _))⟩
    case round =>
      obtain ⟨j, hj, rfl, ⟨s, rfl, hs1, hs2, Hs⟩, hB, hb⟩ := hrel
      have hsz := hb.size
      obtain ⟨-, v1⟩ := hB.two
      by_cases hjn : j < n
      · have hjx : j < xs.length := by rw [← hr.1]; exact hjn
        by_cases hs0 : 0 ≤ s
        · obtain ⟨b, off, e0, e1, rfl, hlt, q0, q1, hd⟩ := (hr.below hb).get j hjx
          go_wp2_with (go_at_call 59; (with_reducible refine (IH.out _ (List.getElem_mem _) _ _ _ _ hd hs0 (by omega)).mono ?_); rintro e w' ⟨rfl, hb'⟩)
          go_roundw
          case rel =>
            have h3 := Hs.out
            have h4 := lessN_bounds xs[j].size hs0
            refine ⟨j + 1, by omega, by go_num, ⟨_, rfl, h4.1, by omega, ?_⟩, hB.under hb', hb.trans (by repeat (first | exact Below.refl _ _ | refine Below.drew ?_ | refine below_drewN ?_ _ | refine Below.alloc ?_ (by first | omega | (simp; done) | (simp; omega)) _ | refine Below.setCell ?_ (by first | omega | (simp; done) | (simp; omega)) _ | refine Below.trans ?_ (Below.mono hb' (by first | omega | (simp; done) | (simp; omega)))))⟩
            subst h3
            rw [Hid, lessN_more hs0, Ty.sizes_take xs j hjx, Ty.size_eq]
          case measure => simp [intOf]; omega
        · go_wp2
          go_ret
          refine ⟨ret_int ?_, hb⟩
          have h3 := Hs.out
          have h5 := Ty.sizes_take_le xs j
          subst h3
          rw [Ty.size, lessN_eq_neg (by omega) (by omega)]
          exact (lessN_stop hl0 (a := Ty.sizes (xs.take j)) (by omega) (by omega) (by omega)).symm
      · go_wp2
        all_goals go_ret
        all_goals
          refine ⟨ret_int ?_, hb⟩
          have h3 := Hs.out
          have h4 : n = xs.length := hr.1
          rw [List.take_of_length_le (by omega), lessN_one] at h3
          rw [Ty.size]
          exact h3

theorem formed_no {k : Int} {xs : List Ty} (h1 : k ≠ 1) (h2 : k ≠ 2) (h3 : k ≠ 3) (h4 : k ≠ 4) : Ty.formed ⟨k, xs⟩ = false := by
  simp [Ty.formed, h1, h2, h3, h4]

set_option maxHeartbeats 800000 in
theorem l3Form_any (t : Ty) : ∀ (c0 c1 : Value) (w : World), Rd w t c0 c1 →
    Calls Try.prog 61 #[.agg #[c0, c1]] w fun e w' => e = .returned (.bool (t.all Ty.formed)) ∧ Below w.heap.size w w' := by
  induction t using Ty.ind with | h k xs ih => ?_
  intro c0 c1 w h
  have IH := hide ih
  clear ih
  obtain ⟨a, n, cap, rfl, rfl, hk, hr⟩ := h.shape
  have hn : n ≤ 9223372036854775807 := by obtain ⟨_, h2, h3, _⟩ := hr; unfold maxLen at h3; omega
  have hall := hide (Ty.all_eq Ty.formed ⟨k, xs⟩)
  go_enter Try.func61, Try.ntmps61
  go_wp2_with fail
  go_loopw [3] (fun i wr => ∃ j : Nat, j ≤ n ∧ i = .int .i64 j ∧ Hid (∀ i (h : i < xs.length), i < j → xs[i].all Ty.formed = true) ∧ Blk wr w.heap.size 26 #[.int .i64 k, .slice a n cap] ∧ Below w.heap.size w wr) (fun i _ => n - (intOf i).toNat)
  case atStart => exact ⟨0, by omega, rfl, fun i _ hi => by omega, Blk.new _ _ _, (by repeat (first | exact Below.refl _ _ | assumption | refine Below.drew ?_ | refine below_drewN ?_ _ | refine Below.alloc ?_ (by first | omega | (simp; done) | (simp; omega)) _ | refine Below.setCell ?_ (by first | omega | (simp; done) | (simp; omega)) _))⟩
  case round =>
    obtain ⟨j, hj, rfl, HR, hB, hb⟩ := hrel
    have hsz := hb.size
    obtain ⟨v0, v1⟩ := hB.two
    by_cases hjn : j < n
    · have hjx : j < xs.length := by rw [← hr.1]; exact hjn
      obtain ⟨b, off, e0, e1, rfl, hlt, q0, q1, hd⟩ := (hr.below hb).get j hjx
      go_wp2_with (go_at_call 61; (with_reducible refine (IH.out _ (List.getElem_mem _) _ _ _ hd).mono ?_); rintro e w' ⟨rfl, hb'⟩)
      · have hno : xs[j].all Ty.formed = false := by simpa using ‹(!xs[j].all Ty.formed) = true›
        go_ret
        refine ⟨ret_bool ?_, hb.trans (by repeat (first | exact Below.refl _ _ | refine Below.drew ?_ | refine below_drewN ?_ _ | refine Below.alloc ?_ (by first | omega | (simp; done) | (simp; omega)) _ | refine Below.setCell ?_ (by first | omega | (simp; done) | (simp; omega)) _ | refine Below.trans ?_ (Below.mono hb' (by first | omega | (simp; done) | (simp; omega)))))⟩
        rw [hall.out, eq_comm, Bool.and_eq_false_iff]
        exact .inr (all_no hjx hno)
      · have hyes : xs[j].all Ty.formed = true := by simpa using ‹(!xs[j].all Ty.formed) = false›
        go_roundw
        case rel =>
          refine ⟨j + 1, by omega, by go_num, fun i hi hij => ?_, hB.under hb', hb.trans (by repeat (first | exact Below.refl _ _ | refine Below.drew ?_ | refine below_drewN ?_ _ | refine Below.alloc ?_ (by first | omega | (simp; done) | (simp; omega)) _ | refine Below.setCell ?_ (by first | omega | (simp; done) | (simp; omega)) _ | refine Below.trans ?_ (Below.mono hb' (by first | omega | (simp; done) | (simp; omega)))))⟩
          by_cases hij' : i < j
          · exact HR.out i hi hij'
          · obtain rfl : i = j := by omega
            exact hyes
        case measure => simp [intOf]; omega
    · have hx1 : n = xs.length := hr.1
      have hfin : Hid (Ty.all Ty.formed ⟨k, xs⟩ = Ty.formed ⟨k, xs⟩) := by
        have := hall.out
        rw [all_yes fun i hi => HR.out i hi (by omega), Bool.and_true] at this
        exact this
      have HX := hide hx1
      clear hx1
      by_cases h1 : k = 1
      · subst h1
        go_wp2
        go_ret
        exact ⟨ret_bool (by rw [hfin.out]; exact formed_of1 HX.out), hb⟩
      · have f1 : (k == 1) = false := beq_eq_false_iff_ne.2 h1
        by_cases h2 : k = 2
        · subst h2
          go_wp2
          go_ret
          exact ⟨ret_bool (by rw [hfin.out]; exact formed_of2 HX.out), hb⟩
        · have f2 : (k == 2) = false := beq_eq_false_iff_ne.2 h2
          by_cases h3 : k = 3
          · subst h3
            go_wp2
            go_ret
            exact ⟨ret_bool (by rw [hfin.out]; exact formed_of3 HX.out), hb⟩
          · have f3 : (k == 3) = false := beq_eq_false_iff_ne.2 h3
            by_cases h4 : k = 4
            · subst h4
              go_wp2
              go_ret
              exact ⟨ret_bool (by rw [hfin.out]; exact formed_of4 HX.out), hb⟩
            · have f4 : (k == 4) = false := beq_eq_false_iff_ne.2 h4
              have hno := hide (formed_no (xs := xs) h1 h2 h3 h4)
              go_wp2
              go_ret
              exact ⟨ret_bool (by rw [hfin.out, hno.out]), hb⟩
end Go.Proofs.Ytmdmnchnkfjpjaa
