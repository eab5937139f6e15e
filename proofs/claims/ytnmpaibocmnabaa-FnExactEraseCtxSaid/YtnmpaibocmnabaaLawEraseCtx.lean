/-
  The law FnExactEraseCtx: the program's EraseCtx and the reference's give equal typings for every list of typings, the argument is left as it was, and the result lies in memory of its own. No condition.
-/
import Derived.Test.YtnmpaibocmnabaaEraseC
import Derived.Test.YtnmpaibocmnabaaRecEq
import Derived.Test.YtnmpaibocmnabaaRecMark
namespace Go.Proofs.Ytnmpaibocmnabaa.fnExactEraseCtx
open Go.RowKit
set_option maxRecDepth 100000
set_option linter.unusedVariables false
set_option linter.unusedSimpArgs false

theorem erase_i64 (t : Ty) : ∀ (w : World) (c0 c1 : Value), Rd w t c0 c1 → i64 t.erase.kind := by
  induction t using Ty.ind with | h k xs ih => ?_
  intro w c0 c1 h
  obtain ⟨a, n, cap, -, -, hk, hr⟩ := h.shape
  by_cases hc : k = 4 ∧ xs.length = 1
  · obtain ⟨rfl, h1⟩ := hc
    match xs, h1 with
    | [x], _ =>
      have he : Ty.erase ⟨4, [x]⟩ = x.erase := by simp [Ty.erase, Ty.erases]
      rw [he]
      obtain ⟨b, off, d0, d1, -, -, -, -, hd⟩ := hr.get 0 (by simp)
      exact ih x (by simp) _ _ _ hd
  · rw [Ty.erase, if_neg hc]
    exact hk
theorem erases_ok {w : World} {xs : List (Rc Int)} {a : Option Addr} {n cap : Nat} (h : Rcs w xs a n cap) : RcOk (erases xs) := by
  intro r hr
  obtain ⟨x, hx, rfl⟩ := List.mem_map.1 hr
  obtain ⟨i, hi, rfl⟩ := List.getElem_of_mem hx
  obtain ⟨b, off, -, -, h1, -, ta, tn, tc, -, -, -, -, hd⟩ := h.get i hi
  exact ⟨h1, ⟨by simp [Rc.erase], by simp [Rc.erase]⟩, erase_i64 _ _ _ _ hd⟩
theorem erases_wt (xs : List (Rc Int)) : Rcs.wt (erases xs) ≤ Rcs.wt xs := by
  have h : ((erases xs).map Rc.wt).sum ≤ (xs.map Rc.wt).sum := by
    induction xs with
    | nil => simp [erases]
    | cons x xs ih =>
      have he := Ty.erase_sizes x.type
      simp only [erases, List.map_cons, List.sum_cons] at ih ⊢
      have : x.erase.wt ≤ x.wt := by
        unfold Rc.wt
        simp only [Rc.erase]
        omega
      omega
  unfold Rcs.wt
  rw [erases_len]
  omega
theorem kk_pos (xs : List (Rc Int)) (i : Nat) : 0 < kk xs i := by unfold kk; omega

set_option maxHeartbeats 3200000 in
theorem walk (xs : List (Rc Int)) (a : Option Addr) (n cap : Nat) (w : World) (h : Rcs w xs a n cap) :
    Calls Try.prog 5 #[.slice a n cap] w fun e w' => e = .returned (.bool true) ∧ Below w.heap.size w w' := by
  have C := szTypingS_any xs a n cap 1048576 w h (by omega) (by omega)
  by_cases hz : Rcs.wt xs ≤ 1048576
  · have hp : lessN (Rcs.wt xs) 1048576 = 1048576 - Rcs.wt xs := lessN_pos (by omega)
    obtain ⟨ys, hys⟩ : ∃ ys, ys = erases xs := ⟨_, rfl⟩
    have hok := hide h.rcok
    have hoky := erases_ok h
    have hwy := Nat.le_trans (erases_wt xs) hz
    have hly := erases_len xs
    have hlm : xs.length ≤ maxLen := by unfold Rcs.wt at hz; unfold maxLen; omega
    have S1 := fun g W hW => specEraseCtx_any xs (some ⟨g, 0, none⟩) xs.length xs.length W hW hz
    have I1 := fun g W hW => implEraseCtx_any xs (some ⟨g, 0, none⟩) xs.length xs.length W hW hz
    rw [← hys] at hoky hwy hly
    simp only [← hys] at S1 I1
    replace S1 := hide S1
    replace I1 := hide I1
    have HOY := hide hoky
    have HLY := hide hly
    have hk0 := kk_pos xs xs.length
    have hk1 := kk_pos ys ys.length
    have KX := hide hk0
    have KY := hide hk1
    rw [hp] at C
    replace C := hide C
    clear hoky hly hys
    go_enter Try.func5, Try.ntmps5
    go_wp2_with (go_at_call 12; (with_reducible refine C.out.mono ?_); rintro e w0 ⟨rfl, b0⟩)
    have h0 := h.below b0
    refine (toTypingS_any xs _ _ _ _ h0 hz).mono ?_
    rintro e w1 ⟨g1, F1, rfl, o1, b1⟩
    have r1 := o1.rcs hok.out (Nat.le_refl _) hlm
    have h1 := h0.below b1
    clear o1
    go_wp2_with fail
    refine (S1.out _ _ r1).mono ?_
    rintro e w2 ⟨gw, cw, Fw, rfl, ow, hcw, hmw, b2⟩
    have rw2 := ow.rcs HOY.out hcw hmw
    have h2 := h1.below b2
    clear ow r1
    go_wp2_with fail
    refine (toTypingS_any xs _ _ _ _ h2 hz).mono ?_
    rintro e w3 ⟨gx, Fx, rfl, ox, b3⟩
    have rx3 := ox.rcs hok.out (Nat.le_refl _) hlm
    have h3 := h2.below b3
    go_wp2_with fail
    refine (I1.out _ _ rx3).mono ?_
    rintro e w4 ⟨gg, cg, Fg, rfl, og, hcg, hmg, b4⟩
    have rg4 := og.rcs HOY.out hcg hmg
    have h4 := h3.below b4
    have rx4 := rx3.below b4
    have rw4 := rw2.below (below_next b3 b4)
    go_wp2_with fail
    refine (eqTypingS_any ys _ _ _ _ _ _ rg4 rw4).mono ?_
    rintro e w5 ⟨rfl, b5⟩
    go_wp2_with fail
    refine (toTypingS_any xs _ _ _ _ (h4.below b5) hz).mono ?_
    rintro e w6 ⟨g6, F6, rfl, o6, b6⟩
    have r6 := o6.rcs hok.out (Nat.le_refl _) hlm
    go_wp2_with fail
    refine (eqTypingS_any xs _ _ _ _ _ _ (rx4.below (below_next b5 b6)) r6).mono ?_
    rintro e w7 ⟨rfl, b7⟩
    have k2 : Below w.heap.size w w2 := below_next (below_next b0 b1) b2
    have k27 : Below w2.heap.size w2 w7 := below_next (below_next (below_next (below_next b3 b4) b5) b6) b7
    have k37 : Below w3.heap.size w3 w7 := below_next (below_next (below_next b4 b5) b6) b7
    have k47 : Below w4.heap.size w4 w7 := below_next (below_next b5 b6) b7
    have ox7 := ox.below k37
    have og7 := og.below k47
    have z2 := k2.size
    have z37 := k37.size
    have z47 := k47.size
    have z27 := k27.size
    have z3 := b3.size
    have z4 := b4.size
    clear r6 o6 rx4 rw4 rg4
    go_wp2_with fail
    refine (markTypingS_any xs Fx xs.length w7 ox7 hz (Nat.le_refl _)).mono ?_
    rintro e w8 ⟨rfl, -, W8⟩
    have gx_lo : ∀ b ∈ allF gx xs.length Fx, w2.heap.size ≤ b ∧ b < w3.heap.size := fun b hb => by
      rcases mem_allF.1 hb with rfl | ⟨i, hi, hb⟩
      · exact ⟨ox.ge, ox.lt⟩
      · exact (ox.recs.own i hi).2.2 b hb
    have k8 : Below w2.heap.size w2 w8 := k27.trans (W8.below z27 fun b hb => (gx_lo b hb).1)
    have gfar : ∀ b, w3.heap.size ≤ b → b < w7.heap.size → w8.heap[b]? = w7.heap[b]? := fun b hb hl => W8.block b hl fun hin => by have := (gx_lo b hin).2; omega
    have og8 := og7.keep (gfar _ og7.ge og7.lt) (fun i hi b hb => gfar b ((og7.recs.own i hi).2.2 b hb).1 ((og7.recs.own i hi).2.2 b hb).2) W8.size
    have hq0 : decide (((kk xs xs.length : Nat) : Int) < 0) = false := by simp
    have hq1 : decide (((kk ys ys.length : Nat) : Int) < 0) = false := by simp
    have rg8 := og8.rcs HOY.out hcg hmg
    have rw8 := rw2.below k8
    have z8 := W8.size
    clear og7 ox7 gfar
    go_wp2_with fail
    refine (eqTypingS_any ys _ _ _ _ _ _ rg8 rw8).mono ?_
    rintro e w9 ⟨rfl, b9⟩
    have og9 := og8.below b9
    have z9 := b9.size
    go_wp2_with fail
    refine (markTypingS_any ys Fg cg w9 og9 hwy hcg).mono ?_
    rintro e w10 ⟨rfl, m10, W10⟩
    have gg_lo : ∀ b ∈ allF gg ys.length Fg, w3.heap.size ≤ b ∧ b < w4.heap.size := fun b hb => by
      rcases mem_allF.1 hb with rfl | ⟨i, hi, hb⟩
      · exact ⟨og.ge, og.lt⟩
      · exact (og.recs.own i hi).2.2 b hb
    have hgl : gg < w10.heap.size := Nat.lt_of_lt_of_le og9.lt W10.size
    have k10 : Below w2.heap.size w2 w10 := (k8.trans (b9.mono (by omega))).trans (W10.below (by omega) fun b hb => by have := (gg_lo b hb).1; omega)
    have z10 := W10.size
    clear og8 og9 rg8 rw8
    go_wp2_with fail
    refine (heldTypingS_any ys Fg cg w10 m10 hgl hwy hcg).mono ?_
    rintro e w11 ⟨rfl, b11⟩
    have k11 : Below w2.heap.size w2 w11 := k10.trans (b11.mono (by omega))
    go_wp2_with fail
    refine (toTypingS_any xs _ _ _ _ (h2.below k11) hz).mono ?_
    rintro e w12 ⟨g12, F12, rfl, o12, b12⟩
    have r12 := o12.rcs hok.out (Nat.le_refl _) hlm
    go_wp2_with fail
    refine (I1.out _ _ r12).mono ?_
    rintro e w13 ⟨gh, ch, Fh, rfl, oh, hch, hmh, b13⟩
    have rh := oh.rcs HOY.out hch hmh
    have k13 : Below w2.heap.size w2 w13 := below_next (below_next k11 b12) b13
    go_wp2_with fail
    refine (eqTypingS_any ys _ _ _ _ _ _ rh (rw2.below k13)).mono ?_
    rintro e w14 ⟨rfl, b14⟩
    have k1014 : Below w10.heap.size w10 w14 := below_next (below_next (below_next b11 b12) b13) b14
    have m14 : MarksF (fun o => w14.cell? ⟨gg, o, none⟩) w14 ys ys.length Fg := m10.keep (fun o _ => k1014.cell (p := ⟨gg, o, none⟩) hgl) fun i hi b hb => k1014.block b (by have := (gg_lo b (mem_allF.2 (.inr ⟨i, hi, hb⟩))).2; omega)
    have hgl14 : gg < w14.heap.size := Nat.lt_of_lt_of_le hgl k1014.size
    go_wp2_with fail
    refine (heldTypingS_any ys Fg cg w14 m14 hgl14 hwy hcg).mono ?_
    rintro e w15 ⟨rfl, b15⟩
    go_wp2_with fail
    go_ret
    exact ⟨rfl, below_next k2 (below_next (below_next k13 b14) b15)⟩
  · have hp : lessN (Rcs.wt xs) 1048576 = -1 := lessN_neg (by omega)
    rw [hp] at C
    replace C := hide C
    go_enter Try.func5, Try.ntmps5
    go_wp2_with (go_at_call 12; (with_reducible refine C.out.mono ?_); rintro e w0 ⟨rfl, b0⟩)
    all_goals go_ret
    all_goals exact ⟨rfl, b0⟩
end Go.Proofs.Ytnmpaibocmnabaa.fnExactEraseCtx
