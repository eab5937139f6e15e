/-
  The walks of szType and szTypeS: they take from 'left' the number of nodes below a type's root, -1 where there are more.
-/
import Derived.Test.YtiofojaifonefaaDoorRep
import Derived.Test.YtiofojaifonefaaDoorRows
import Derived.LoopTactic
namespace Go.Proofs.YtiofojaifonefaaDoor
open Go.RowKit
set_option linter.unusedVariables false

/-- n less, or -1 where that would be below 0. -/
def lessN (n : Nat) (left : Int) : Int := if (n : Int) ≤ left then left - n else -1
theorem lessN_pos {n : Nat} {left : Int} (h : (n : Int) ≤ left) : lessN n left = left - n := by rw [lessN, if_pos h]
theorem lessN_neg {n : Nat} {left : Int} (h : left < (n : Int)) : lessN n left = -1 := by rw [lessN, if_neg (by omega)]
theorem lessN_lt {n : Nat} {left : Int} (_h0 : 0 ≤ left) (h : lessN n left < 0) : left < (n : Int) := by unfold lessN at h; split at h <;> omega
theorem lessN_ge {n : Nat} {left : Int} (h : 0 ≤ lessN n left) : (n : Int) ≤ left := by unfold lessN at h; split at h <;> omega

set_option maxHeartbeats 400000 in
theorem szTypeS_of (xs : List Ty)
    (ih : ∀ t ∈ xs, ∀ (c0 c1 : Value) (left : Int) (w : World), Rd w t c0 c1 → 0 ≤ left → left ≤ 1048576 →
      Calls Tryd.prog 12 #[.agg #[c0, c1], .int .i64 left] w fun e w' => e = .returned (.int .i64 (lessN (Ty.sizes t.args) left)) ∧ Below w.heap.size w w')
    (a : Option Addr) (n cap : Nat) (left : Int) (w : World) (h : Rds w xs a n cap) (hl0 : 0 ≤ left) (hl1 : left ≤ 1048576) :
    Calls Tryd.prog 24 #[.slice a n cap, .int .i64 left] w fun e w' => e = .returned (.int .i64 (lessN (Ty.sizes xs) left)) ∧ Below w.heap.size w w' := by
  have IH := hide ih
  clear ih
  have hn : n ≤ 9223372036854775807 := by obtain ⟨_, h2, h3, _⟩ := h; unfold maxLen at h3; omega
  by_cases hlt : left < n
  · go_enter Tryd.func24, Tryd.ntmps24
    go_wp2
    go_ret
    have hs := Ty.length_le_sizes xs
    have := h.1
    exact ⟨ret_int (lessN_neg (by omega)).symm, Below.refl _ _⟩
  · have hd : decide (left - (n : Int) < 0) = false := by simp; omega
    go_enter Tryd.func24, Tryd.ntmps24
    go_wp2_with fail
    go_loopw [1, 5] (fun l i wr => ∃ k : Nat, k ≤ n ∧ i = .int .i64 k ∧ (∃ s : Int, l = .int .i64 s ∧ 0 ≤ s ∧ s ≤ left ∧ Hid (s = left - n + k - Ty.sizes (xs.take k))) ∧ Below w.heap.size w wr) (fun _ i _ => n - (intOf i).toNat)
    case atStart => exact ⟨0, by omega, rfl, ⟨_, rfl, by omega, by omega, by simp [Hid, Ty.sizes]⟩, Below.refl _ _⟩
    case round =>
      obtain ⟨k, hk, rfl, ⟨s, rfl, hs0, hs1, Hs⟩, hb⟩ := hrel
      by_cases hkn : k < n
      · have hkx : k < xs.length := by rw [← h.1]; exact hkn
        have hx := (h.below hb).get k hkx
        obtain ⟨b, off, c0, c1, rfl, hlt', e0, e1, hr⟩ := hx
        go_wp2_with (go_at_call 12; refine (IH.out _ (List.getElem_mem _) _ _ _ _ hr hs0 (by omega)).mono ?_; rintro e w' ⟨rfl, hb'⟩)
        · go_ret
          have hneg := lessN_lt hs0 ‹lessN (Ty.sizes xs[k].args) s < 0›
          have h1 := Ty.sizes_take xs k hkx
          have h2 := Ty.sizes_take_le xs (k + 1)
          have h3 := Hs.out
          have h4 := h.1
          exact ⟨ret_int (lessN_neg (by omega)).symm, hb.trans (hb'.mono hb.size)⟩
        · have hle := lessN_ge ‹0 ≤ lessN (Ty.sizes xs[k].args) s›
          go_roundw
          case rel =>
            refine ⟨k + 1, by omega, by go_num, ⟨_, by rw [lessN_pos hle], by omega, by omega, ?_⟩, hb.trans (hb'.mono hb.size)⟩
            have h1 := Ty.sizes_take xs k hkx
            have h3 := Hs.out
            unfold Hid
            omega
          case measure => simp [intOf]; omega
      · go_wp2
        go_ret
        have h3 := Hs.out
        have h4 := h.1
        rw [List.take_of_length_le (by omega)] at h3
        exact ⟨ret_int (by rw [lessN_pos (by omega)]; omega), hb⟩

set_option maxHeartbeats 400000 in
theorem szType_any (t : Ty) : ∀ (c0 c1 : Value) (left : Int) (w : World), Rd w t c0 c1 → 0 ≤ left → left ≤ 1048576 →
    Calls Tryd.prog 12 #[.agg #[c0, c1], .int .i64 left] w fun e w' => e = .returned (.int .i64 (lessN (Ty.sizes t.args) left)) ∧ Below w.heap.size w w' := by
  induction t using Ty.ind with | h k xs ih => ?_
  intro c0 c1 left w h hl0 hl1
  have C := hide (szTypeS_of xs ih)
  clear ih
  obtain ⟨a, n, cap, rfl, rfl, hk, hr⟩ := h.shape
  have hr' := fun o => hr.below ((Below.refl w.heap.size w).alloc (Nat.le_refl _) o)
  go_enter Tryd.func12, Tryd.ntmps12
  go_wp2_with (go_at_call 24; refine (C.out _ _ _ _ _ (hr' _) hl0 hl1).mono ?_; rintro e w' ⟨rfl, hb'⟩)
  · go_ret
    exact ⟨ret_int (lessN_neg (lessN_lt hl0 ‹lessN (Ty.sizes xs) left < 0›)).symm, below_of_alloc hb'⟩
  · go_ret
    exact ⟨rfl, below_of_alloc hb'⟩

end Go.Proofs.YtiofojaifonefaaDoor
