/-
  The law FnExactWithoutName: the program's WithoutName and the reference's return the same list, a new one, for every argument. No condition.
-/
import Derived.Test.YtknlbhclfeldbaaOwnI
import Derived.Test.YtknlbhclfeldbaaMarkR
namespace Go.Proofs.Ytknlbhclfeldbaa.fnExactWithoutName
open Go.RowKit Go.ChangeShapes Go.WideShapes
set_option linter.unusedVariables false
set_option linter.unusedSimpArgs false

set_option maxHeartbeats 3200000 in
theorem walk (xs : List ByteArray) (a : Option Addr) (n cap : Nat) (s : ByteArray) (w : World) (h : Rss w xs a n cap) (hs : s.size ≤ maxLen) :
    Calls Try.prog 3 #[.slice a n cap, .string s] w fun e w' => e = .returned (.bool true) ∧ Below w.heap.size w w' := by
  by_cases hss : 1048576 < s.size
  · go_enter Try.func3, Try.ntmps3
    go_wp2_with fail
    go_ret
    exact ⟨rfl, Below.refl _ _⟩
  have hss' : s.size ≤ 1048576 := by omega
  by_cases hz : sizeSs xs ≤ 1048576
  · have hp : lessN (sizeSs xs) 1048576 = 1048576 - sizeSs xs := lessN_pos (by omega)
    have C := hide (szStringS_any xs a n cap 1048576 w h (by omega) (by omega))
    rw [hp] at C
    have hl : xs.length ≤ 1048576 := by unfold sizeSs at hz; omega
    have hsz := h.2.2.2.1
    have hwz : ∀ x ∈ withoutN xs s, x.size ≤ 9223372036854775807 := fun x hx => hsz x (List.mem_filter.1 hx).1
    have hwl : (withoutN xs s).length ≤ 1048576 := Nat.le_trans (List.length_filter_le _ _) hl
    obtain ⟨zs, hzs⟩ : ∃ zs, zs = withoutN xs s := ⟨_, rfl⟩
    rw [← hzs] at hwz hwl
    replace hzs := hide hzs
    go_enter Try.func3, Try.ntmps3
    go_wp2_with (go_at_call 8; (with_reducible refine C.out.mono ?_); rintro e w1 ⟨rfl, rfl⟩)
    clear C
    refine (toStringS_any xs _ _ _ _ h hl).mono ?_
    rintro e w1 ⟨g1, cs1, rfl, B1, r1, gb1, b1⟩
    go_wp2_with fail
    refine (specWithoutName_any xs s _ _ _ _ r1 (by omega)).mono ?_
    rintro e w2 ⟨v0, rfl, hO0, b2⟩
    rw [← hzs.out] at hO0
    obtain ⟨a0, c0, rfl, R0⟩ := hO0.read hwz
    have A0 := hO0.at_
    have K2 := below_next b1 b2
    go_wp2_with fail
    refine (toStringS_any xs _ _ _ _ (h.below K2) hl).mono ?_
    rintro e w3 ⟨g3, cs3, rfl, B3, r3, gb3, b3⟩
    have K3 := below_next K2 b3
    have hg3 := B3.lt
    replace R0 := R0.below b3
    go_wp2_with fail
    refine (implWithoutName_any xs s _ _ _ _ r3 (by omega)).mono ?_
    rintro e w4 ⟨v1, rfl, hO1, b4⟩
    rw [← hzs.out] at hO1
    obtain ⟨a1, c1, rfl, R1⟩ := hO1.read hwz
    have A1 := hO1.at_
    have K4 := below_next K3 b4
    replace R0 := R0.below b4
    replace r3 := r3.below b4
    replace B3 := B3.under b4
    go_wp2_with fail
    refine (eqStringS_any zs _ _ _ _ _ _ R1 R0).mono ?_
    rintro e w5 ⟨rfl, b5⟩
    have K5 := below_next K4 b5
    replace R0 := R0.below b5
    replace R1 := R1.below b5
    replace hO1 := OwnS.below hO1 b5
    replace r3 := r3.below b5
    replace B3 := B3.under b5
    go_wp2_with fail
    refine (toStringS_any xs _ _ _ _ (h.below K5) hl).mono ?_
    rintro e w6 ⟨g6, cs6, rfl, -, r6, -, b6⟩
    have K6 := below_next K5 b6
    replace R0 := R0.below b6
    replace R1 := R1.below b6
    replace hO1 := OwnS.below hO1 b6
    replace r3 := r3.below b6
    replace B3 := B3.under b6
    go_wp2_with fail
    refine (eqStringS_any xs _ _ _ _ _ _ r3 r6).mono ?_
    rintro e w7 ⟨rfl, b7⟩
    have K7 := below_next K6 b7
    replace R0 := R0.below b7
    replace R1 := R1.below b7
    replace hO1 := OwnS.below hO1 b7
    replace B3 := B3.under b7
    have hcs3 : xs.length ≤ cs3.size := by
      by_cases h0 : xs.length = 0
      · omega
      · obtain ⟨b, off, hp, -, hc⟩ := (r3.below b7).get (xs.length - 1) (by omega)
        injection hp with hp
        injection hp with e1 e2
        subst e1 e2
        rw [B3.cell] at hc
        have := (Array.getElem?_eq_some_iff.1 hc).1
        omega
    clear r6 r3 R1 r1 B1
    have s2 := b2.size
    have s4 := b4.size
    have s5 := b5.size
    have s6 := b6.size
    have s7 := b7.size
    have s3 := b3.size
    have s1 := b1.size
    go_wp2_with fail
    refine (markStringS_any 1 xs.length xs.length g3 cs3 w7 (by omega) (by omega) B3 hcs3).mono ?_
    rintro e w8 ⟨rfl, q8, -⟩
    have K8 := K7.trans (q8.below (B := w.heap.size) K7.size (by intro b hb; simp at hb; omega))
    have s8 := q8.size
    replace R0 := R0.wrote q8 (by intro p hp hin; have := A0 p hp; simp at hin; omega)
    obtain ⟨a1', c1', e1, R1⟩ := hO1.read hwz
    injection e1 with e1 _ e3
    subst e1 e3
    replace R1 := R1.wrote q8 (by intro p hp hin; have := A1 p hp; simp at hin; omega)
    replace hO1 := hO1.wrote q8 (by intro g hg hin; have := hO1.lt g hg; simp at hin; omega)
    go_wp2_with fail
    refine (eqStringS_any zs _ _ _ _ _ _ R1 R0).mono ?_
    rintro e w9 ⟨rfl, b9⟩
    have K9 := below_next K8 b9
    have s9 := b9.size
    replace R0 := R0.below b9
    replace hO1 := OwnS.below hO1 b9
    clear R1
    go_wp2_with fail
    refine (markRes hO1 (by omega)).mono ?_
    rintro e w10 ⟨rfl, ⟨fp, hfp, -, q10⟩, M⟩
    have K10 := K9.trans (q10.below (B := w.heap.size) K9.size (by intro b hb; have := hfp b hb; omega))
    have s10 := q10.size
    replace R0 := R0.wrote q10 (by intro p hp hin; have := A0 p hp; have := hfp _ hin; omega)
    clear hO1
    go_wp2_with fail
    refine (heldStringS_any 1 zs.length _ _ _ (by omega) (by omega) M).mono ?_
    rintro e w11 ⟨rfl, b11⟩
    have K11 := below_next K10 b11
    replace R0 := R0.below b11
    replace M := M.below b11
    go_wp2_with fail
    refine (toStringS_any xs _ _ _ _ (h.below K11) hl).mono ?_
    rintro e w12 ⟨g12, cs12, rfl, -, r12, -, b12⟩
    have K12 := below_next K11 b12
    replace R0 := R0.below b12
    replace M := M.below b12
    go_wp2_with fail
    refine (implWithoutName_any xs s _ _ _ _ r12 (by omega)).mono ?_
    rintro e w13 ⟨v2, rfl, hO2, b13⟩
    rw [← hzs.out] at hO2
    obtain ⟨a2, c2, rfl, R2⟩ := hO2.read hwz
    have K13 := below_next K12 b13
    replace R0 := R0.below b13
    replace M := M.below b13
    go_wp2_with fail
    refine (eqStringS_any zs _ _ _ _ _ _ R2 R0).mono ?_
    rintro e w14 ⟨rfl, b14⟩
    have K14 := below_next K13 b14
    replace M := M.below b14
    go_wp2_with fail
    refine (heldStringS_any 1 zs.length _ _ _ (by omega) (by omega) M).mono ?_
    rintro e w15 ⟨rfl, b15⟩
    go_wp2_with fail
    go_ret
    exact ⟨rfl, below_next K14 b15⟩
  · have hp : lessN (sizeSs xs) 1048576 = -1 := lessN_neg (by omega)
    have C := hide (szStringS_any xs a n cap 1048576 w h (by omega) (by omega))
    rw [hp] at C
    go_enter Try.func3, Try.ntmps3
    go_wp2_with (go_at_call 8; (with_reducible refine C.out.mono ?_); rintro e w1 ⟨rfl, rfl⟩)
    all_goals go_ret
    all_goals exact ⟨rfl, Below.refl _ _⟩
end Go.Proofs.Ytknlbhclfeldbaa.fnExactWithoutName
