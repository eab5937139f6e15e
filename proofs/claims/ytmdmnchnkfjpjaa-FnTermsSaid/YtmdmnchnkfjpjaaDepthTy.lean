/-
  The walks of DepthOfType in both texts: a type's depth.
-/
import Derived.Test.YtmdmnchnkfjpjaaRep
import Derived.Test.YtmdmnchnkfjpjaaNum
import Derived.Test.YtmdmnchnkfjpjaaRows
import Derived.LoopTactic
import Derived.Outline
namespace Go.Proofs.Ytmdmnchnkfjpjaa
open Go.RowKit
set_option linter.unusedVariables false

set_option maxHeartbeats 400000 in
theorem specDepthOfType_any (t : Ty) : ∀ (c0 c1 : Value) (w : World), Rd w t c0 c1 → Ty.sizes t.args ≤ 1048576 →
    Calls Try.prog 60 #[.agg #[c0, c1]] w fun e w' => e = .returned (.int .i64 (t.depth : Int)) ∧ Below w.heap.size w w' := by
  induction t using Ty.ind with | h k xs ih => ?_
  intro c0 c1 w h hl
  have IH := hide ih
  clear ih
  obtain ⟨a, n, cap, rfl, rfl, hk, hr⟩ := h.shape
  have hn : n ≤ 1048576 := by
    have := Ty.length_le_sizes xs
    have h1 := hr.1
    have h2 : Ty.sizes xs ≤ 1048576 := hl
    have h3 : n = xs.length := h1
    omega
  go_enter Try.func60, Try.ntmps60
  go_wp2_with fail
  go_loopw [3, 4] (fun s i wr => ∃ j : Nat, j ≤ n ∧ i = .int .i64 j ∧ (∃ q : Nat, q ≤ 1048577 ∧ s = .int .i64 (q : Int) ∧ Hid (q = Ty.depths (xs.take j))) ∧ Blk wr w.heap.size 26 #[.int .i64 k, .slice a n cap] ∧ Below w.heap.size w wr) (fun _ i _ => n - (intOf i).toNat)
  case atStart => exact ⟨0, by omega, rfl, ⟨0, by omega, rfl, by simp [Hid, Ty.depths]⟩, Blk.new _ _ _, (by repeat (first | exact Below.refl _ _ | assumption | refine Below.drew ?_ | refine below_drewN ?_ _ | refine Below.alloc ?_ (by first | omega | (simp; done) | (simp; omega)) _ | refine Below.setCell ?_ (by first | omega | (simp; done) | (simp; omega)) _))⟩
  case round =>
    obtain ⟨j, hj, rfl, ⟨q, hq, rfl, Hq⟩, hB, hb⟩ := hrel
    have hsz := hb.size
    have hcell := hB.cell 1
    by_cases hjn : j < n
    · have hjx : j < xs.length := by rw [← hr.1]; exact hjn
      obtain ⟨b, off, c0, c1, rfl, hlt, e0, e1, hd⟩ := (hr.below hb).get j hjx
      have hz : Ty.sizes xs[j].args ≤ 1048576 ∧ xs[j].depth ≤ 1048576 := by
        have h1 := Ty.sizes_take xs j hjx
        have h2 := Ty.sizes_take_le xs (j + 1)
        have h4 := Ty.size_eq xs[j]
        have h5 := Ty.depth_le_size xs[j]
        omega
      obtain ⟨hz1, hz2⟩ := hz
      go_wp2_with (first | (go_at_call 39; refine (l1Max_any _ _ _).mono ?_; rintro e w' ⟨rfl, rfl⟩) | (go_at_call 60; refine (IH.out _ (List.getElem_mem _) _ _ _ hd hz1).mono ?_; rintro e w' ⟨rfl, hb'⟩))
      go_roundw
      case rel =>
        refine ⟨j + 1, by omega, by go_num, ⟨max q xs[j].depth, by omega, by go_num, ?_⟩, hB.under hb', hb.trans (by repeat (first | exact Below.refl _ _ | refine Below.drew ?_ | refine below_drewN ?_ _ | refine Below.alloc ?_ (by first | omega | (simp; done) | (simp; omega)) _ | refine Below.setCell ?_ (by first | omega | (simp; done) | (simp; omega)) _ | refine Below.trans ?_ (Below.mono hb' (by first | omega | (simp; done) | (simp; omega)))))⟩
        rw [Hq.out, Hid, Ty.depths_take xs j hjx]
      case measure => simp [intOf]; omega
    · go_wp2
      go_ret
      refine ⟨ret_int ?_, hb⟩
      have h3 := Hq.out
      have h4 : n = xs.length := hr.1
      rw [List.take_of_length_le (by omega)] at h3
      rw [Ty.depth_eq]
      simp only [h3]
      rfl

set_option maxHeartbeats 400000 in
theorem implDepthOfType_any (t : Ty) : ∀ (c0 c1 : Value) (w : World), Rd w t c0 c1 → Ty.sizes t.args ≤ 1048576 →
    Calls Try.prog 67 #[.agg #[c0, c1]] w fun e w' => e = .returned (.int .i64 (t.depth : Int)) ∧ Below w.heap.size w w' := by
  induction t using Ty.ind with | h k xs ih => ?_
  intro c0 c1 w h hl
  have IH := hide ih
  clear ih
  obtain ⟨a, n, cap, rfl, rfl, hk, hr⟩ := h.shape
  have hl' : Ty.sizes xs ≤ 1048576 := hl
  clear hl
  have hn : n ≤ 1048576 := by
    have := Ty.length_le_sizes xs
    have h1 : n = xs.length := hr.1
    omega
  go_enter Try.func67, Try.ntmps67
  go_wp2_with fail
  go_loopw [3, 9] (fun s i wr => ∃ j : Nat, j ≤ n ∧ i = .int .i64 j ∧ (∃ q : Nat, q ≤ 1048577 ∧ s = .int .i64 (q : Int) ∧ Hid (q = Ty.depths (xs.take j))) ∧ Below w.heap.size w wr) (fun _ i _ => n - (intOf i).toNat)
  case atStart => exact ⟨0, by omega, rfl, ⟨0, by omega, rfl, by simp [Hid, Ty.depths]⟩, (by repeat (first | exact Below.refl _ _ | assumption | refine Below.drew ?_ | refine below_drewN ?_ _ | refine Below.alloc ?_ (by first | omega | (simp; done) | (simp; omega)) _ | refine Below.setCell ?_ (by first | omega | (simp; done) | (simp; omega)) _))⟩
  case round =>
    obtain ⟨j, hj, rfl, ⟨q, hq, rfl, Hq⟩, hb⟩ := hrel
    have hsz := hb.size
    by_cases hjn : j < n
    · have hjx : j < xs.length := by rw [← hr.1]; exact hjn
      obtain ⟨b, off, a', n', cap', rfl, hlt, e0, e1, hd⟩ := (hr.below hb).at_ j hjx
      have hz : Ty.sizes xs[j].args ≤ 1048576 ∧ xs[j].depth ≤ 1048576 := by
        have h1 := Ty.sizes_take xs j hjx
        have h2 := Ty.sizes_take_le xs (j + 1)
        have h4 := Ty.size_eq xs[j]
        have h5 := Ty.depth_le_size xs[j]
        omega
      obtain ⟨hz1, hz2⟩ := hz
      go_wp2_with (go_at_call 67; refine (IH.out _ (List.getElem_mem _) _ _ _ (hd.below (by repeat (first | exact Below.refl _ _ | assumption | refine Below.drew ?_ | refine below_drewN ?_ _ | refine Below.alloc ?_ (by first | omega | (simp; done) | (simp; omega)) _ | refine Below.setCell ?_ (by first | omega | (simp; done) | (simp; omega)) _))) hz1).mono ?_; rintro e w' ⟨rfl, hb'⟩)
      go_roundw
      case rel =>
        refine ⟨j + 1, by omega, by go_num, ⟨max q xs[j].depth, by omega, by go_num, ?_⟩, hb.trans (by repeat (first | exact Below.refl _ _ | refine Below.drew ?_ | refine below_drewN ?_ _ | refine Below.alloc ?_ (by first | omega | (simp; done) | (simp; omega)) _ | refine Below.setCell ?_ (by first | omega | (simp; done) | (simp; omega)) _ | refine Below.trans ?_ (Below.mono hb' (by first | omega | (simp; done) | (simp; omega)))))⟩
        rw [Hq.out, Hid, Ty.depths_take xs j hjx]
      case measure => simp [intOf]; omega
    · go_wp2
      go_ret
      refine ⟨ret_int ?_, hb⟩
      have h3 := Hq.out
      have h4 : n = xs.length := hr.1
      rw [List.take_of_length_le (by omega)] at h3
      rw [Ty.depth_eq]
      simp only [h3]
      rfl
end Go.Proofs.Ytmdmnchnkfjpjaa
