/-
  The walks of SizeOfType in both texts: the number of a type's nodes.
-/
import Derived.Test.YtmdmnchnkfjpjaaRep
import Derived.Test.YtmdmnchnkfjpjaaRows
import Derived.LoopTactic
import Derived.Outline
namespace Go.Proofs.Ytmdmnchnkfjpjaa
open Go.RowKit
set_option linter.unusedVariables false

set_option maxHeartbeats 400000 in
theorem implSizeOfType_any (t : Ty) : ∀ (c0 c1 : Value) (w : World), Rd w t c0 c1 → Ty.sizes t.args ≤ 1048576 →
    Calls Try.prog 66 #[.agg #[c0, c1]] w fun e w' => e = .returned (.int .i64 (t.size : Int)) ∧ Below w.heap.size w w' := by
  induction t using Ty.ind with | h k xs ih => ?_
  intro c0 c1 w h hl
  have IH := hide ih
  clear ih
  obtain ⟨a, n, cap, rfl, rfl, hk, hr⟩ := h.shape
  have hl' : Ty.sizes xs ≤ 1048576 := hl
  clear hl
  have hn : n ≤ 1048576 := by
    have := Ty.length_le_sizes xs
    have h1 : n = xs.length := hr.1
    omega
  go_enter Try.func66, Try.ntmps66
  go_wp2_with fail
  go_loopw [3, 9] (fun s i wr => ∃ j : Nat, j ≤ n ∧ i = .int .i64 j ∧ (∃ q : Nat, q ≤ 1048577 ∧ s = .int .i64 (q : Int) ∧ Hid (q = 1 + Ty.sizes (xs.take j))) ∧ Below w.heap.size w wr) (fun _ i _ => n - (intOf i).toNat)
  case atStart => exact ⟨0, by omega, rfl, ⟨1, by omega, rfl, by simp [Hid, Ty.sizes]⟩, (by repeat (first | exact Below.refl _ _ | assumption | refine Below.drew ?_ | refine below_drewN ?_ _ | refine Below.alloc ?_ (by first | omega | (simp; done) | (simp; omega)) _ | refine Below.setCell ?_ (by first | omega | (simp; done) | (simp; omega)) _))⟩
  case round =>
    obtain ⟨j, hj, rfl, ⟨q, hq, rfl, Hq⟩, hb⟩ := hrel
    have hsz := hb.size
    by_cases hjn : j < n
    · have hjx : j < xs.length := by rw [← hr.1]; exact hjn
      obtain ⟨b, off, a', n', cap', rfl, hlt, e0, e1, hd⟩ := (hr.below hb).at_ j hjx
      have hz : Ty.sizes xs[j].args ≤ 1048576 ∧ q + xs[j].size ≤ 1048577 := by
        have h1 := Ty.sizes_take xs j hjx
        have h2 := Ty.sizes_take_le xs (j + 1)
        have h3 := Hq.out
        have h4 := Ty.size_eq xs[j]
        omega
      obtain ⟨hz1, hz2⟩ := hz
      go_wp2_with (go_at_call 66; refine (IH.out _ (List.getElem_mem _) _ _ _ (hd.below (by repeat (first | exact Below.refl _ _ | assumption | refine Below.drew ?_ | refine below_drewN ?_ _ | refine Below.alloc ?_ (by first | omega | (simp; done) | (simp; omega)) _ | refine Below.setCell ?_ (by first | omega | (simp; done) | (simp; omega)) _))) hz1).mono ?_; rintro e w' ⟨rfl, hb'⟩)
      go_roundw
      case rel =>
        refine ⟨j + 1, by omega, by go_num, ⟨q + xs[j].size, hz2, by go_num, ?_⟩, hb.trans (by repeat (first | exact Below.refl _ _ | refine Below.drew ?_ | refine below_drewN ?_ _ | refine Below.alloc ?_ (by first | omega | (simp; done) | (simp; omega)) _ | refine Below.setCell ?_ (by first | omega | (simp; done) | (simp; omega)) _ | refine Below.trans ?_ (Below.mono hb' (by first | omega | (simp; done) | (simp; omega)))))⟩
        have h1 := Ty.sizes_take xs j hjx
        have h3 := Hq.out
        have h4 := Ty.size_eq xs[j]
        unfold Hid
        omega
      case measure => simp [intOf]; omega
    · go_wp2
      go_ret
      refine ⟨ret_int ?_, hb⟩
      have h3 := Hq.out
      have h4 : n = xs.length := hr.1
      rw [List.take_of_length_le (by omega)] at h3
      rw [Ty.size_eq]
      simp only [h3]
end Go.Proofs.Ytmdmnchnkfjpjaa
