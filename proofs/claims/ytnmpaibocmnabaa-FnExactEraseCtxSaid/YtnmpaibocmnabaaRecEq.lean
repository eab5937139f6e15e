/-
  The walks of eqTyping, eqTypingS, eqParam, eqParamS at two readings of the same records: they answer true.
-/
import Derived.Test.YtnmpaibocmnabaaRec
import Derived.Test.YtnmpaibocmnabaaEq
import Derived.StillTailTactics
namespace Go.Proofs.Ytnmpaibocmnabaa
open Go.RowKit
set_option maxRecDepth 100000
set_option linter.unusedVariables false
set_option linter.unusedSimpArgs false

set_option maxHeartbeats 800000 in
theorem eqTyping_any (r : Rc Int) (ta ta' : Option Addr) (tn tc tn' tc' : Nat) (w : World) (h : Rd w r.type (.int .i64 r.type.kind) (.slice ta tn tc)) (h' : Rd w r.type (.int .i64 r.type.kind) (.slice ta' tn' tc')) :
    Calls Try.prog 50 #[.agg #[.string r.name, .int .i64 r.type.kind, .slice ta tn tc, .int .i64 r.last], .agg #[.string r.name, .int .i64 r.type.kind, .slice ta' tn' tc', .int .i64 r.last]] w fun e w' => e = .returned (.bool true) ∧ Below w.heap.size w w' := by
  go_enter Try.func50, Try.ntmps50
  go_wp2_with fail
  refine (eqType_any r.type _ _ _ _ _ (h.below (by repeat (first | exact Below.refl _ _ | assumption | refine Below.drew ?_ | refine below_drewN ?_ _ | refine Below.alloc ?_ (by first | omega | (simp; done) | (simp; omega)) _ | refine Below.setCell ?_ (by first | omega | (simp; done) | (simp; omega)) _))) (h'.below (by repeat (first | exact Below.refl _ _ | assumption | refine Below.drew ?_ | refine below_drewN ?_ _ | refine Below.alloc ?_ (by first | omega | (simp; done) | (simp; omega)) _ | refine Below.setCell ?_ (by first | omega | (simp; done) | (simp; omega)) _)))).mono ?_
  rintro e w1 ⟨rfl, b1⟩
  have k1 : Below w.heap.size w w1 := below_of_alloc (below_of_alloc b1)
  have A1 : Blk w1 w.heap.size _ _ := ((Blk.new w _ _).alloc _).under b1
  have B1 : Blk w1 (w.heap.size + 1) _ _ := (Blk.new2 w _ _ _).under b1
  have u3 := A1.cell 3
  have v3 := B1.cell 3
  simp at u3 v3
  go_wp2_with fail
  go_ret
  exact ⟨rfl, k1⟩
set_option maxHeartbeats 800000 in
theorem eqTypingS_any (xs : List (Rc Int)) (a a' : Option Addr) (n cap cap' : Nat) (w : World) (h : Rcs w xs a n cap) (h' : Rcs w xs a' n cap') :
    Calls Try.prog 16 #[.slice a n cap, .slice a' n cap'] w fun e w' => e = .returned (.bool true) ∧ Below w.heap.size w w' := by
  have hn : n ≤ 9223372036854775807 := by obtain ⟨_, h2, h3, _⟩ := h; unfold maxLen at h3; omega
  have hx := hide h.1
  go_enter Try.func16, Try.ntmps16
  go_wp2_with fail
  go_loopw [5] (fun i wr => ∃ k : Nat, k ≤ n ∧ i = .int .i64 k ∧ Below w.heap.size w wr) (fun i _ => n - (intOf i).toNat)
  case atStart => exact ⟨0, by omega, rfl, Below.refl _ _⟩
  case round =>
    obtain ⟨k, hk, rfl, hb⟩ := hrel
    have hsz := hb.size
    by_cases hkn : k < n
    · have hkx : k < xs.length := by rw [← hx.out]; exact hkn
      obtain ⟨b, off, rfl, hlt, -, -, ta, tn, tc, e0, e1, e2, e3, hr⟩ := (h.below hb).get k hkx
      obtain ⟨b', off', rfl, hlt', -, -, ta', tn', tc', f0, f1, f2, f3, hr'⟩ := (h'.below hb).get k hkx
      simp only [Last.val] at e3 f3
      have C := hide (eqTyping_any xs[k] ta ta' tn tc tn' tc' wr.drew (hr.below (below_drew _)) (hr'.below (below_drew _)))
      go_wp2_with fail
      go_still_tail 8, (by kernel_rfl)
      change wpList _ _ _ _ _ wr.drew
      go_wp2_with (go_at_call 50; refine C.out.mono ?_; rintro e w' ⟨rfl, hb'⟩)
      go_roundw
      case rel => exact ⟨k + 1, by omega, by go_num, hb.trans (by repeat (first | exact Below.refl _ _ | refine Below.drew ?_ | refine below_drewN ?_ _ | refine Below.alloc ?_ (by first | omega | (simp; done) | (simp; omega)) _ | refine Below.setCell ?_ (by first | omega | (simp; done) | (simp; omega)) _ | refine Below.trans ?_ (Below.mono hb' (by first | omega | (simp; done) | (simp; omega)))))⟩
      case measure => simp [intOf]; omega
    · go_wp2
      go_ret
      exact ⟨rfl, hb⟩
set_option maxHeartbeats 800000 in
theorem eqParam_any (r : Rc Bool) (ta ta' : Option Addr) (tn tc tn' tc' : Nat) (w : World) (h : Rd w r.type (.int .i64 r.type.kind) (.slice ta tn tc)) (h' : Rd w r.type (.int .i64 r.type.kind) (.slice ta' tn' tc')) :
    Calls Try.prog 43 #[.agg #[.string r.name, .int .i64 r.type.kind, .slice ta tn tc, .bool r.last], .agg #[.string r.name, .int .i64 r.type.kind, .slice ta' tn' tc', .bool r.last]] w fun e w' => e = .returned (.bool true) ∧ Below w.heap.size w w' := by
  go_enter Try.func43, Try.ntmps43
  go_wp2_with fail
  refine (eqType_any r.type _ _ _ _ _ (h.below (by repeat (first | exact Below.refl _ _ | assumption | refine Below.drew ?_ | refine below_drewN ?_ _ | refine Below.alloc ?_ (by first | omega | (simp; done) | (simp; omega)) _ | refine Below.setCell ?_ (by first | omega | (simp; done) | (simp; omega)) _))) (h'.below (by repeat (first | exact Below.refl _ _ | assumption | refine Below.drew ?_ | refine below_drewN ?_ _ | refine Below.alloc ?_ (by first | omega | (simp; done) | (simp; omega)) _ | refine Below.setCell ?_ (by first | omega | (simp; done) | (simp; omega)) _)))).mono ?_
  rintro e w1 ⟨rfl, b1⟩
  have k1 : Below w.heap.size w w1 := below_of_alloc (below_of_alloc b1)
  have A1 : Blk w1 w.heap.size _ _ := ((Blk.new w _ _).alloc _).under b1
  have B1 : Blk w1 (w.heap.size + 1) _ _ := (Blk.new2 w _ _ _).under b1
  have u3 := A1.cell 3
  have v3 := B1.cell 3
  simp at u3 v3
  go_wp2_with fail
  go_ret
  exact ⟨rfl, k1⟩
set_option maxHeartbeats 800000 in
theorem eqParamS_any (xs : List (Rc Bool)) (a a' : Option Addr) (n cap cap' : Nat) (w : World) (h : Rcs w xs a n cap) (h' : Rcs w xs a' n cap') :
    Calls Try.prog 11 #[.slice a n cap, .slice a' n cap'] w fun e w' => e = .returned (.bool true) ∧ Below w.heap.size w w' := by
  have hn : n ≤ 9223372036854775807 := by obtain ⟨_, h2, h3, _⟩ := h; unfold maxLen at h3; omega
  have hx := hide h.1
  go_enter Try.func11, Try.ntmps11
  go_wp2_with fail
  go_loopw [5] (fun i wr => ∃ k : Nat, k ≤ n ∧ i = .int .i64 k ∧ Below w.heap.size w wr) (fun i _ => n - (intOf i).toNat)
  case atStart => exact ⟨0, by omega, rfl, Below.refl _ _⟩
  case round =>
    obtain ⟨k, hk, rfl, hb⟩ := hrel
    have hsz := hb.size
    by_cases hkn : k < n
    · have hkx : k < xs.length := by rw [← hx.out]; exact hkn
      obtain ⟨b, off, rfl, hlt, -, -, ta, tn, tc, e0, e1, e2, e3, hr⟩ := (h.below hb).get k hkx
      obtain ⟨b', off', rfl, hlt', -, -, ta', tn', tc', f0, f1, f2, f3, hr'⟩ := (h'.below hb).get k hkx
      simp only [Last.val] at e3 f3
      have C := hide (eqParam_any xs[k] ta ta' tn tc tn' tc' wr.drew (hr.below (below_drew _)) (hr'.below (below_drew _)))
      go_wp2_with fail
      go_still_tail 8, (by kernel_rfl)
      change wpList _ _ _ _ _ wr.drew
      go_wp2_with (go_at_call 43; refine C.out.mono ?_; rintro e w' ⟨rfl, hb'⟩)
      go_roundw
      case rel => exact ⟨k + 1, by omega, by go_num, hb.trans (by repeat (first | exact Below.refl _ _ | refine Below.drew ?_ | refine below_drewN ?_ _ | refine Below.alloc ?_ (by first | omega | (simp; done) | (simp; omega)) _ | refine Below.setCell ?_ (by first | omega | (simp; done) | (simp; omega)) _ | refine Below.trans ?_ (Below.mono hb' (by first | omega | (simp; done) | (simp; omega)))))⟩
      case measure => simp [intOf]; omega
    · go_wp2
      go_ret
      exact ⟨rfl, hb⟩
end Go.Proofs.Ytnmpaibocmnabaa
