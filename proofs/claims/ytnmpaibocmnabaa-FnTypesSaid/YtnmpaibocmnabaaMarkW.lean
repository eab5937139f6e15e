/-
  The walks of markTypeS, markType, heldTypeS, heldType.
-/
import Derived.Test.YtnmpaibocmnabaaMark
namespace Go.Proofs.Ytnmpaibocmnabaa
open Go.RowKit
set_option linter.unusedVariables false
set_option linter.unusedSimpArgs false

/-- What markTypeS does. -/
abbrev MarkC (xs : List Ty) : Prop := ∀ (a : Option Addr) (n cap : Nat) (fp : List Nat) (q : Int) (w : World), RTa w xs a n cap fp → fp.Nodup → Free w fp → 0 ≤ q → q + Ty.sizes xs ≤ 1099511627776 →
  Calls Try.prog 52 #[.slice a n cap, .int .i64 q] w fun e w' => e = .returned (.int .i64 (q + Ty.sizes xs)) ∧ RTa w' (Ty.marks q xs) a n cap fp ∧ Wrote fp w w'

set_option maxHeartbeats 800000 in
theorem markTypeS_of (xs : List Ty) (ih : ∀ t ∈ xs, MarkC t.args) : MarkC xs := by
  intro a n cap fp q w hA hnd hF hq0 hq1
  have IH := hide ih
  clear ih
  have hn : n ≤ 9223372036854775807 := by obtain ⟨_, h2, h3, _⟩ := hA; unfold maxLen at h3; omega
  have hx : n = xs.length := hA.1
  rcases hA with ⟨-, hc1, hc2, ⟨rfl, rfl⟩ | ⟨hne, b, off, fps, rfl, rfl, hR⟩⟩
  · obtain rfl : n = 0 := hx
    go_enter Try.func52, Try.ntmps52
    go_wp2_with fail
    refine wp_loop_rounds 1 ?_
    rw [rounds_succ]
    go_wp2_with fail
    go_ret
    refine ⟨ret_int (by simp [Ty.sizes]), ⟨rfl, hc1, hc2, .inl ⟨rfl, rfl⟩⟩, Wrote.refl _ _⟩
  · have HX := hide hx
    clear hx
    go_enter Try.func52, Try.ntmps52
    go_wp2_with fail
    go_loopw [1, 5] (fun s i wr => ∃ j : Nat, j ≤ n ∧ i = .int .i64 j ∧ (∃ z : Int, s = .int .i64 z ∧ 0 ≤ z ∧ z ≤ 1099511627776 ∧ Hid (z = q + Ty.sizes (xs.take j))) ∧ RTs wr (Ty.marks q (xs.take j) ++ xs.drop j) b off fps ∧ Wrote (b :: fps) w wr) (fun _ i _ => n - (intOf i).toNat)
    case atStart => exact ⟨0, by omega, rfl, ⟨q, rfl, hq0, by omega, by simp [Hid, Ty.sizes]⟩, by simpa [Ty.marks] using hR, Wrote.refl _ _⟩
    case round =>
      obtain ⟨j, hj, rfl, ⟨z, rfl, hz0, hz1, HZ⟩, hRj, hW⟩ := hrel
      by_cases hjn : j < n
      · have hjx : j < xs.length := by rw [← HX.out]; exact hjn
        have hbz : z + 1 + Ty.sizes xs[j].args ≤ 1099511627776 := by
          have h1 := Ty.sizes_take xs j hjx
          have h2 := Ty.sizes_take_le xs (j + 1)
          have h3 := HZ.out
          omega
        have hblt : ∀ x ∈ b :: fps, x < w.heap.size := by
          have h1 := RTs_lt_of xs (fun t _ => RT.lt t) b off fps hR
          intro x hx
          rcases List.mem_cons.1 hx with rfl | hx
          · exact h1.2 hne
          · exact h1.1 x hx
        have hFr : Free wr (b :: fps) := hW.free hF hblt
        obtain ⟨a', n', cap', c0, fj, e0, e1, hnj, hsub, hbj, hA2, hstep⟩ := mark_step (w := wr) (q := z) hjx ⟨by omega, by omega⟩ (Ty.marks q (xs.take j)) (by rw [Ty.marks_len, List.length_take]; omega) hRj hnd
        have z0 := hFr b (by simp) (off + j * 2)
        have hF2 : Free (wr.setCell ⟨b, off + j * 2, none⟩ (.int .i64 z)) fj := fun x hx o => (World.frozen?_setCell _ _ _ _).trans (hFr x (List.mem_cons_of_mem _ (hsub x hx)) o)
        go_wp2_with (go_at_call 52; (with_reducible refine (IH.out _ (List.getElem_mem hjx) _ _ _ _ _ _ hA2 hnj hF2 (by omega) hbz).mono ?_); rintro e w2 ⟨rfl, hA3, hW2⟩)
        go_roundw
        case rel =>
          have h1 := Ty.sizes_take xs j hjx
          refine ⟨j + 1, by omega, by go_num, ⟨_, rfl, by omega, by omega, ?_⟩, ?_, ?_⟩
          · have h3 := HZ.out
            unfold Hid
            omega
          · have h4 := hstep _ hW2 hA3
            rw [take_snoc xs j hjx, Ty.marks_append]
            have h5 : Ty.marks (q + Ty.sizes (xs.take j)) [xs[j]] = [xs[j].mark z] := by
              rw [← HZ.out]
              simp [Ty.marks]
            rw [h5]
            exact h4
          · exact (hW.trans (Wrote.setCell (p := ⟨b, off + j * 2, none⟩) (by simp) _)).trans (hW2.more fun x hx => List.mem_cons_of_mem _ (hsub x hx))
        case measure => simp [intOf]; omega
      · go_wp2
        go_ret
        have hx1 := HX.out
        have h3 := HZ.out
        rw [List.take_of_length_le (by omega)] at h3 hRj
        rw [List.drop_of_length_le (by omega), List.append_nil] at hRj
        refine ⟨ret_int h3, ⟨by rw [Ty.marks_len]; exact hx1, hc1, hc2, .inr ⟨?_, b, off, fps, rfl, rfl, hRj⟩⟩, hW⟩
        intro e
        have := Ty.marks_len xs q
        rw [e] at this
        exact hne (List.length_eq_zero_iff.1 this.symm)

theorem markTypeS_any (xs : List Ty) : MarkC xs := by
  have key : ∀ t : Ty, MarkC t.args := fun t => by
    induction t using Ty.ind with | h k ys ih => ?_
    exact markTypeS_of ys ih
  exact key ⟨0, xs⟩

end Go.Proofs.Ytnmpaibocmnabaa
