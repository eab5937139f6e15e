/-
  The law FnNames: what is drawn of names and numbers is answered alike by the program and the reference.
-/
import Derived.Test.YtcbgapncmjjmeaaDoorDrawM
import Derived.Test.YtcbgapncmjjmeaaDoorApply
import Derived.Test.YtcbgapncmjjmeaaDoorOwnI
import Derived.Test.YtcbgapncmjjmeaaDoorName
import Derived.Test.YtcbgapncmjjmeaaDoorFresh
namespace Go.Proofs.YtcbgapncmjjmeaaDoor.fnNames
open Go.RowKit
set_option maxRecDepth 100000
set_option linter.unusedVariables false
set_option linter.unusedSimpArgs false

theorem fresh_none {xs : List ByteArray} {k : Nat} (h : hasV xs k = false) : fIdx (fun x => (nmV k).toList == x.toList) xs = -1 :=
  fIdx_none fun i hi => by
    have := List.any_eq_false.1 h xs[i] (List.getElem_mem hi)
    simpa using this
theorem bit_range (b : Bool) : 0 ≤ bitI b ∧ bitI b < 10007 := by cases b <;> decide
theorem apply_range (s : ByteArray) (x y : Int) : 0 ≤ (applyOp s x y).1 ∧ (applyOp s x y).1 < 10007 := by
  unfold applyOp
  repeat' split
  all_goals first
    | exact ⟨Int.le_refl _, by decide⟩
    | exact bit_range _
    | exact ⟨Int.emod_nonneg _ (by decide), Int.emod_lt_of_pos _ (by decide)⟩

set_option maxHeartbeats 6400000 in
theorem walk (a : Option Addr) (n cap : Nat) (w : World) (h : Rbs w a n cap) (ht : Tab w) :
    Calls Tryd.prog 10 #[.slice a n cap] w fun e w' => e = .returned (.bool true) ∧ Below w.heap.size w w' := by
  have hn : n ≤ 9223372036854775807 := by obtain ⟨h2, h3, _⟩ := h; unfold maxLen at h3; omega
  by_cases hbig : n ≤ 1048576
  · have hd : decide ((n : Int) > 1048576) = false := by simp; omega
    have CB := bigN_any a n cap w hn
    rw [hd] at CB
    replace CB := hide CB
    have HR := hide h
    have HT := hide ht
    clear h ht
    go_enter Tryd.func10, Tryd.ntmps10
    go_wp2_with (go_at_call 26; (with_reducible refine CB.out.mono ?_); rintro e w0 ⟨rfl, rfl⟩)
    refine (drawFresh_any a n cap _ HR.out).mono ?_
    rintro e w1 ⟨g1, c1, xs, rfl, R1, hl1, b1⟩
    go_wp2_with fail
    refine (implFreshName_any xs _ _ _ _ R1 (by omega) (HT.out.below b1)).mono ?_
    rintro e w2 ⟨k, hk, hk2, hk3, rfl, b2⟩
    have k2 := below_next b1 b2
    go_wp2_with fail
    refine (drawUnite_any a n cap _ (HR.out.below k2)).mono ?_
    rintro e w3 ⟨g3, c3, ys, g4, c4, zs, rfl, R3, R4, hl3, hl4, b3⟩
    have k3 := below_next k2 b3
    have hwu : ∀ x ∈ uniteN ys zs, x.size ≤ 9223372036854775807 := fun x hx => (uniteN_mem hx).elim (R3.2.2.2.1 x) (R4.2.2.2.1 x)
    go_wp2_with fail
    refine (implUniteNames_any ys zs _ _ _ _ _ _ _ R3 R4 (by omega)).mono ?_
    rintro e w4 ⟨v4, rfl, hO4, b4⟩
    obtain ⟨a5, c5, rfl, R5⟩ := hO4.read hwu
    have k4 := below_next k3 b4
    go_wp2_with fail
    refine (drawWithout_any a n cap _ (HR.out.below k4)).mono ?_
    rintro e w5 ⟨g6, c6, us, s6, rfl, R6, hl6, hs6, b5⟩
    have k5 := below_next k4 b5
    have hww : ∀ x ∈ withoutN us s6, x.size ≤ 9223372036854775807 := fun x hx => R6.2.2.2.1 x (List.mem_filter.1 hx).1
    go_wp2_with fail
    refine (drawReduce_any a n cap _ (HR.out.below k5)).mono ?_
    rintro e w6 ⟨z, rfl, hz, b6⟩
    have k6 := below_next k5 b6
    go_wp2_with fail
    refine (implReduce_any z _).mono ?_
    rintro e w7 ⟨rfl, rfl⟩
    have m0 : 0 ≤ z % 10007 := Int.emod_nonneg _ (by decide)
    have m1 : z % 10007 < 10007 := Int.emod_lt_of_pos _ (by decide)
    have mm : z % 10007 % 10007 = z % 10007 := Int.emod_emod _ _
    have CR1 := hide (fun W => specReduce_any z W)
    have CR2 := fun W => implReduce_any (z % 10007) W
    rw [mm] at CR2
    generalize z % 10007 = m at m0 m1 CR1 CR2 ⊢
    replace CR2 := hide CR2
    have d1 : decide (m < 0) = false := by simp; omega
    have d2 : decide (m ≥ 10007) = false := by simp; omega
    have d3 : (m != m) = false := by simp
    have kq := below_next (below_next b3 b4) (below_next b5 b6)
    have R1' := (R1.below b2).below kq
    have k36 := below_next b4 (below_next b5 b6)
    have CF := hide (fun W (hW : Below w6.heap.size w6 W) => specFresh_any xs _ _ _ W (R1'.below hW) (by omega))
    have hnone := fresh_none hk3
    have CI : Hid (∀ W, Below w6.heap.size w6 W → Calls Tryd.prog 37 #[.slice (some ⟨g1, 0, none⟩) xs.length c1, .string (nmV k)] W fun e w' => e = .returned (.int .i64 (-1)) ∧ W = w') := fun W hW => by
      have := implIndexOf_any xs (nmV k) _ _ _ W (R1'.below hW)
      rw [hnone] at this
      exact this
    have R3' := R3.below k36
    have R4' := R4.below k36
    have R5' := R5.below (below_next b5 b6)
    have R6' := R6.below b6
    have CU := hide (fun W (hW : Below w6.heap.size w6 W) => specUniteNames_any ys zs _ _ _ _ _ _ W (R3'.below hW) (R4'.below hW) (by omega))
    have CW := hide (fun W (hW : Below w6.heap.size w6 W) => implWithoutName_any us s6 _ _ _ W (R6'.below hW) (by omega))
    have CX := hide (fun W (hW : Below w6.heap.size w6 W) => specWithoutName_any us s6 _ _ _ W (R6'.below hW) (by omega))
    have HR5 := hide (fun W (hW : Below w6.heap.size w6 W) => R5'.below hW)
    have hqq : ((nmV k).toList == (nmV k).toList) = true := by simp
    have kk : Below w6.heap.size w6 w6 := Below.refl _ _
    clear R1 R1' R3 R4 R5 R6 R3' R4' R5' R6' hO4 mm hnone kq k36 k2 k3 k4 k5 b1 b2 b3 b4 b5 b6
    replace hwu := hide hwu
    replace hww := hide hww
    have HK := hide (show _ ∧ _ ∧ _ from ⟨hk, hk2, hk3⟩)
    clear hk hk2 hk3
    generalize hU : uniteN ys zs = un at *
    generalize hW : withoutN us s6 = wo at *
    go_wp2_with (first
      | (go_at_call 18; (with_reducible refine (CF.out _ kk).mono ?_); rintro e v1 ⟨j, hj, hj2, hj3, rfl, q1⟩; obtain rfl := fresh_one HK.out.1 hj HK.out.2.1 hj2 HK.out.2.2 hj3; clear hj hj2 hj3; have kk := below_next kk q1)
      | (go_at_call 37; (with_reducible refine (CI.out _ kk).mono ?_); rintro e v2 ⟨rfl, rfl⟩)
      | (go_at_call 39; (with_reducible refine (CU.out _ kk).mono ?_); rintro e v3 ⟨t3, rfl, hP3, q3⟩; have kk := below_next kk q3; obtain ⟨a8, c8, rfl, R8⟩ := hP3.read hwu.out; clear hP3)
      | (go_at_call 38; (with_reducible refine (sameTexts_any un _ _ _ _ _ _ (HR5.out _ kk) R8).mono ?_); rintro e v4 ⟨rfl, q4⟩; have kk := below_next kk q4)
      | (go_at_call 40; (with_reducible refine (CW.out _ kk).mono ?_); rintro e v5 ⟨t5, rfl, hP5, q5⟩; have kk := below_next kk q5; obtain ⟨a9, c9, rfl, R9⟩ := hP5.read hww.out; clear hP5)
      | (go_at_call 41; (with_reducible refine (CX.out _ kk).mono ?_); rintro e v6 ⟨t6, rfl, hP6, q6⟩; have kk := below_next kk q6; have R9 := R9.below q6; obtain ⟨a10, c10, rfl, R10⟩ := hP6.read hww.out; clear hP6)
      | (go_at_call 38; (with_reducible refine (sameTexts_any wo _ _ _ _ _ _ R9 R10).mono ?_); rintro e v7 ⟨rfl, q7⟩; have kk := below_next kk q7)
      | (go_at_call 42; (with_reducible refine (CR1.out _).mono ?_); rintro e v8 ⟨rfl, rfl⟩)
      | (go_at_call 36; (with_reducible refine (CR2.out _).mono ?_); rintro e v9 ⟨rfl, rfl⟩))
    have K8 := below_next k6 kk
    clear CF CI CU CW CX HR5 R8 R9 R10 CR1 CR2 HK hqq hwu hww
    refine (drawApplyOp_any a n cap _ (HR.out.below K8)).mono ?_
    rintro e x8 ⟨s, x, y, rfl, -, -, b8⟩
    have K9 := below_next K8 b8
    have hrange := apply_range s x y
    have A1 := hide (fun W => implApplyOp_any s x y W)
    have A2 := hide (fun W => specApplyOp_any s x y W)
    generalize applyOp s x y = r at hrange A1 A2
    obtain ⟨ra, rb⟩ := r
    obtain ⟨r0, r1⟩ := hrange
    have f1 : (ra == ra) = true := by simp
    have f2 : (rb == rb) = true := by simp
    have f3 : decide (ra ≥ 0) = true := by simpa using r0
    have f4 : decide (ra < 10007) = true := by simpa using r1
    clear r0 r1
    go_wp2_with fail
    refine (A1.out _).mono ?_
    rintro e x9 ⟨rfl, rfl⟩
    go_wp2_with fail
    refine (A2.out _).mono ?_
    rintro e x10 ⟨rfl, rfl⟩
    go_wp2_with fail
    refine (drawIsName_any a n cap _ (HR.out.below K9)).mono ?_
    rintro e x11 ⟨nm, rfl, hnm, b11⟩
    have K11 := below_next K9 b11
    have N1 := hide (fun W => implIsName_any nm W (by omega))
    have N2 := hide (fun W => specIsName_any nm W (by omega))
    generalize isName nm = bn at N1 N2
    have f5 : (bn == bn) = true := by simp
    clear A1 A2
    go_wp2_with (first
      | (go_at_call 47; (with_reducible refine (N1.out _).mono ?_); rintro e x12 ⟨rfl, q12⟩; have kz := below_next K11 q12)
      | (go_at_call 48; (with_reducible refine (N2.out _).mono ?_); rintro e x13 ⟨rfl, q13⟩; have kz := below_next kz q13))
    go_ret
    exact ⟨rfl, kz⟩
  · have hd : decide ((n : Int) > 1048576) = true := by simp; omega
    have CB := bigN_any a n cap w hn
    rw [hd] at CB
    replace CB := hide CB
    go_enter Tryd.func10, Tryd.ntmps10
    go_wp2_with (go_at_call 26; (with_reducible refine CB.out.mono ?_); rintro e w0 ⟨rfl, rfl⟩)
    go_ret
    exact ⟨rfl, Below.refl _ _⟩
end Go.Proofs.YtcbgapncmjjmeaaDoor.fnNames
