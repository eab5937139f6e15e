/-
  The walks of eqType and eqTypeS at two readings of one tree: they answer true.
-/
import Derived.Test.YtiofojaifonefaaDoorRep
import Derived.Test.YtiofojaifonefaaDoorRows
import Derived.LoopTactic
import Derived.StillTailTactics
namespace Go.Proofs.YtiofojaifonefaaDoor
open Go.RowKit
set_option maxRecDepth 100000
set_option linter.unusedVariables false

set_option maxHeartbeats 400000 in
theorem eqTypeS_of (xs : List Ty)
    (ih : ∀ t ∈ xs, ∀ (c0 c1 d0 d1 : Value) (w : World), Rd w t c0 c1 → Rd w t d0 d1 → Calls Tryd.prog 20 #[.agg #[c0, c1], .agg #[d0, d1]] w fun e w' => e = .returned (.bool true) ∧ Below w.heap.size w w')
    (a a' : Option Addr) (n cap cap' : Nat) (w : World) (h : Rds w xs a n cap) (h' : Rds w xs a' n cap') :
    Calls Tryd.prog 35 #[.slice a n cap, .slice a' n cap'] w fun e w' => e = .returned (.bool true) ∧ Below w.heap.size w w' := by
  have IH := hide ih
  clear ih
  have hn : n ≤ 9223372036854775807 := by obtain ⟨_, h2, h3, _⟩ := h; unfold maxLen at h3; omega
  go_enter Tryd.func35, Tryd.ntmps35
  go_wp2_with fail
  go_loopw [5] (fun i wr => ∃ k : Nat, k ≤ n ∧ i = .int .i64 k ∧ Below w.heap.size w wr) (fun i _ => n - (intOf i).toNat)
  case atStart => exact ⟨0, by omega, rfl, Below.refl _ _⟩
  case round =>
    obtain ⟨k, hk, rfl, hb⟩ := hrel
    have hsz := hb.size
    by_cases hkn : k < n
    · have hkx : k < xs.length := by rw [← h.1]; exact hkn
      obtain ⟨b, off, c0, c1, rfl, hlt, e0, e1, hr⟩ := (h.below hb).get k hkx
      obtain ⟨b', off', d0, d1, rfl, hlt', f0, f1, hr'⟩ := (h'.below hb).get k hkx
      go_wp2_with fail
      go_still_tail 8, (by kernel_rfl)
      change wpList _ _ _ _ _ wr.drew
      go_wp2_with (go_at_call 20; refine (IH.out _ (List.getElem_mem _) _ _ _ _ _ (hr.below (by repeat (first | exact Below.refl _ _ | assumption | refine Below.drew ?_ | refine below_drewN ?_ _ | refine Below.alloc ?_ (by first | omega | (simp; done) | (simp; omega)) _ | refine Below.setCell ?_ (by first | omega | (simp; done) | (simp; omega)) _))) (hr'.below (by repeat (first | exact Below.refl _ _ | assumption | refine Below.drew ?_ | refine below_drewN ?_ _ | refine Below.alloc ?_ (by first | omega | (simp; done) | (simp; omega)) _ | refine Below.setCell ?_ (by first | omega | (simp; done) | (simp; omega)) _)))).mono ?_; rintro e w' ⟨rfl, hb'⟩)
      go_roundw
      case rel => exact ⟨k + 1, by omega, by go_num, hb.trans (by repeat (first | exact Below.refl _ _ | refine Below.drew ?_ | refine below_drewN ?_ _ | refine Below.alloc ?_ (by first | omega | (simp; done) | (simp; omega)) _ | refine Below.setCell ?_ (by first | omega | (simp; done) | (simp; omega)) _ | refine Below.trans ?_ (Below.mono hb' (by first | omega | (simp; done) | (simp; omega)))))⟩
      case measure => simp [intOf]; omega
    · go_wp2
      go_ret
      exact ⟨rfl, hb⟩

set_option maxHeartbeats 400000 in
theorem eqType_any (t : Ty) : ∀ (c0 c1 d0 d1 : Value) (w : World), Rd w t c0 c1 → Rd w t d0 d1 →
    Calls Tryd.prog 20 #[.agg #[c0, c1], .agg #[d0, d1]] w fun e w' => e = .returned (.bool true) ∧ Below w.heap.size w w' := by
  induction t using Ty.ind with | h k xs ih => ?_
  intro c0 c1 d0 d1 w h h'
  have C := hide (eqTypeS_of xs ih)
  clear ih
  obtain ⟨a, n, cap, rfl, rfl, hk, hr⟩ := h.shape
  obtain ⟨a', n', cap', rfl, rfl, hk', hr'⟩ := h'.shape
  obtain rfl : n = n' := hr.1.trans hr'.1.symm
  have hp : ∀ W, Below w.heap.size w W → Rds W xs a n cap := fun W hW => hr.below hW
  have hp' : ∀ W, Below w.heap.size w W → Rds W xs a' n cap' := fun W hW => hr'.below hW
  go_enter Tryd.func20, Tryd.ntmps20
  go_wp2_with (go_at_call 35; refine (C.out _ _ _ _ _ _ (hp _ (by repeat (first | exact Below.refl _ _ | assumption | refine Below.drew ?_ | refine below_drewN ?_ _ | refine Below.alloc ?_ (by first | omega | (simp; done) | (simp; omega)) _ | refine Below.setCell ?_ (by first | omega | (simp; done) | (simp; omega)) _))) (hp' _ (by repeat (first | exact Below.refl _ _ | assumption | refine Below.drew ?_ | refine below_drewN ?_ _ | refine Below.alloc ?_ (by first | omega | (simp; done) | (simp; omega)) _ | refine Below.setCell ?_ (by first | omega | (simp; done) | (simp; omega)) _)))).mono ?_; rintro e w' ⟨rfl, hb'⟩)
  go_ret
  exact ⟨rfl, (by repeat (first | exact Below.refl _ _ | refine Below.drew ?_ | refine below_drewN ?_ _ | refine Below.alloc ?_ (by first | omega | (simp; done) | (simp; omega)) _ | refine Below.setCell ?_ (by first | omega | (simp; done) | (simp; omega)) _ | refine Below.trans ?_ (Below.mono hb' (by first | omega | (simp; done) | (simp; omega)))))⟩
end Go.Proofs.YtiofojaifonefaaDoor
