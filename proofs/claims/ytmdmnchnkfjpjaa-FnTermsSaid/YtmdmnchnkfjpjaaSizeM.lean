/-
  The walks of SizeOf in both texts: the number of a term's nodes.
-/
import Derived.Test.YtmdmnchnkfjpjaaTm
import Derived.Test.YtmdmnchnkfjpjaaRows
import Derived.LoopTactic
import Derived.Outline
namespace Go.Proofs.Ytmdmnchnkfjpjaa
open Go.RowKit
set_option linter.unusedVariables false
set_option linter.unusedSimpArgs false

set_option maxHeartbeats 800000 in
theorem implSizeOf_any (t : Tm) : ∀ (l : Lt) (w : World), Md w t l → Tm.sizes t.args ≤ 1048576 →
    Calls Try.prog 6 #[.agg #[.int .i64 t.kind, .string t.name, .string t.other, .int .i64 t.n, .int .i64 t.type.kind, .slice l.ta l.tn l.tc, .int .i64 t.res.kind, .slice l.ra l.rn l.rc, .slice l.aa l.an l.ac]] w fun e w' => e = .returned (.int .i64 (t.size : Int)) ∧ Below w.heap.size w w' := by
  induction t using Tm.ind' with | h t ih => ?_
  intro l w h hl
  have IH := hide ih
  clear ih
  obtain ⟨h0, ht, hrr, hr⟩ := h.shape
  clear ht hrr h
  have hn : l.an ≤ 1048576 := by
    have := Tm.length_le_sizes t.args
    have h1 : l.an = t.args.length := hr.1
    omega
  go_enter Try.func6, Try.ntmps6
  go_wp2_with fail
  go_loopw [3, 9] (fun s i wr => ∃ j : Nat, j ≤ l.an ∧ i = .int .i64 j ∧ (∃ q : Nat, q ≤ 1048577 ∧ s = .int .i64 (q : Int) ∧ Hid (q = 1 + Tm.sizes (t.args.take j))) ∧ Below w.heap.size w wr) (fun _ i _ => l.an - (intOf i).toNat)
  case atStart => exact ⟨0, by omega, rfl, ⟨1, by omega, rfl, by simp [Hid, Tm.sizes]⟩, (by repeat (first | exact Below.refl _ _ | assumption | refine Below.drew ?_ | refine below_drewN ?_ _ | refine Below.alloc ?_ (by first | omega | (simp; done) | (simp; omega)) _ | refine Below.setCell ?_ (by first | omega | (simp; done) | (simp; omega)) _))⟩
  case round =>
    obtain ⟨j, hj, rfl, ⟨q, hq, rfl, Hq⟩, hb⟩ := hrel
    have hsz := hb.size
    by_cases hjn : j < l.an
    · have hjx : j < t.args.length := by rw [← hr.1]; exact hjn
      obtain ⟨b, off, l', ha, hlt, hc, hd⟩ := (hr.below hb).get j hjx
      obtain ⟨e0, e1, e2, e3, e4, e5, e6, e7, e8⟩ := hc.nine
      clear hc
      rw [ha]
      have hz : Tm.sizes t.args[j].args ≤ 1048576 ∧ q + t.args[j].size ≤ 1048577 := by
        have h1 := Tm.sizes_take t.args j hjx
        have h2 := Tm.sizes_take_le t.args (j + 1)
        have h3 := Hq.out
        have h4 := Tm.size_eq t.args[j]
        omega
      obtain ⟨hz1, hz2⟩ := hz
      go_wp2_with (go_at_call 6; (with_reducible refine (IH.out _ (List.getElem_mem hjx) _ _ (hd.below (by repeat (first | exact Below.refl _ _ | assumption | refine Below.drew ?_ | refine below_drewN ?_ _ | refine Below.alloc ?_ (by first | omega | (simp; done) | (simp; omega)) _ | refine Below.setCell ?_ (by first | omega | (simp; done) | (simp; omega)) _))) hz1).mono ?_); rintro e w' ⟨rfl, hb'⟩)
      go_roundw
      case rel =>
        refine ⟨j + 1, by omega, by go_num, ⟨q + t.args[j].size, hz2, by go_num, ?_⟩, hb.trans (by repeat (first | exact Below.refl _ _ | refine Below.drew ?_ | refine below_drewN ?_ _ | refine Below.alloc ?_ (by first | omega | (simp; done) | (simp; omega)) _ | refine Below.setCell ?_ (by first | omega | (simp; done) | (simp; omega)) _ | refine Below.trans ?_ (Below.mono hb' (by first | omega | (simp; done) | (simp; omega)))))⟩
        have h1 := Tm.sizes_take t.args j hjx
        have h3 := Hq.out
        have h4 := Tm.size_eq t.args[j]
        unfold Hid
        omega
      case measure => simp [intOf]; omega
    · go_wp2
      go_ret
      refine ⟨ret_int ?_, hb⟩
      have h3 := Hq.out
      have h4 : l.an = t.args.length := hr.1
      rw [List.take_of_length_le (by omega)] at h3
      rw [Tm.size_eq]
      simp only [h3]
end Go.Proofs.Ytmdmnchnkfjpjaa
