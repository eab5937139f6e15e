/-
  The law FnExactUniteNames: the program's UniteNames and the reference's return the same list, a new one, for every argument. No condition.
-/
import Derived.Test.YtknlbhclfeldbaaOwnI
import Derived.Test.YtknlbhclfeldbaaMarkR
import Derived.Test.YtknlbhclfeldbaaLess
namespace Go.Proofs.Ytknlbhclfeldbaa.fnExactUniteNames
open Go.RowKit Go.ChangeShapes Go.WideShapes
set_option linter.unusedVariables false
set_option linter.unusedSimpArgs false

set_option maxHeartbeats 6400000 in
theorem walk (xs : List ByteArray) (a : Option Addr) (n cap : Nat) (ys : List ByteArray) (a' : Option Addr) (n' cap' : Nat) (w : World) (h : Rss w xs a n cap) (h' : Rss w ys a' n' cap') :
    Calls Try.prog 4 #[.slice a n cap, .slice a' n' cap'] w fun e w' => e = .returned (.bool true) ∧ Below w.heap.size w w' := by
  by_cases hz : sizeSs xs ≤ 1048576
  · have hp : lessN (sizeSs xs) 1048576 = 1048576 - sizeSs xs := lessN_pos (by omega)
    have C := hide (szStringS_any xs a n cap 1048576 w h (by omega) (by omega))
    rw [hp] at C
    by_cases hz' : sizeSs ys ≤ 1048576 - sizeSs xs
    · have hp' : lessN (sizeSs ys) (1048576 - sizeSs xs) = 1048576 - sizeSs xs - sizeSs ys := by rw [lessN_pos (by omega)]
      have C' := hide (szStringS_any ys a' n' cap' (1048576 - sizeSs xs) w h' (by omega) (by omega))
      rw [hp'] at C'
      have hl : xs.length ≤ 1048576 := by unfold sizeSs at hz; omega
      have hl' : ys.length ≤ 1048576 := by unfold sizeSs at hz'; omega
      have hwz : ∀ x ∈ uniteN xs ys, x.size ≤ 9223372036854775807 := fun x hx => (uniteN_mem hx).elim (h.2.2.2.1 x) (h'.2.2.2.1 x)
      have hwl : (uniteN xs ys).length ≤ 2097152 := Nat.le_trans (uniteN_len _ _) (by omega)
      obtain ⟨zs, hzs⟩ : ∃ zs, zs = uniteN xs ys := ⟨_, rfl⟩
      rw [← hzs] at hwz hwl
      replace hzs := hide hzs
      go_enter Try.func4, Try.ntmps4
      go_wp2_with fail
      refine C.out.mono ?_
      rintro e w1 ⟨rfl, rfl⟩
      go_wp2_with fail
      refine C'.out.mono ?_
      rintro e w1 ⟨rfl, rfl⟩
      clear C C'
      go_wp2_with fail
      refine (toStringS_any xs _ _ _ _ h hl).mono ?_
      rintro e w1 ⟨g1, cs1, rfl, B1, r1, gb1, b1⟩
      go_wp2_with fail
      refine (toStringS_any ys _ _ _ _ (h'.below b1) hl').mono ?_
      rintro e w1b ⟨g1b, cs1b, rfl, -, r1b, -, b1b⟩
      have K1 := below_next b1 b1b
      replace r1 := r1.below b1b
      go_wp2_with fail
      refine (specUniteNames_any xs ys _ _ _ _ _ _ _ r1 r1b (by omega)).mono ?_
      rintro e w2 ⟨v0, rfl, hO0, b2⟩
      rw [← hzs.out] at hO0
      obtain ⟨a0, c0, rfl, R0⟩ := hO0.read hwz
      have A0 := hO0.at_
      have K2 := below_next K1 b2
      go_wp2_with fail
      refine (toStringS_any xs _ _ _ _ (h.below K2) hl).mono ?_
      rintro e w3 ⟨g3, cs3, rfl, B3, r3, gb3, b3⟩
      have K3 := below_next K2 b3
      have hg3 := B3.lt
      replace R0 := R0.below b3
      go_wp2_with fail
      refine (toStringS_any ys _ _ _ _ (h'.below K3) hl').mono ?_
      rintro e w3b ⟨g3b, cs3b, rfl, B3b, r3b, gb3b, b3b⟩
      have K3b := below_next K3 b3b
      have hg3b := B3b.lt
      replace R0 := R0.below b3b
      replace r3 := r3.below b3b
      replace B3 := B3.under b3b
      go_wp2_with fail
      refine (implUniteNames_any xs ys _ _ _ _ _ _ _ r3 r3b (by omega)).mono ?_
      rintro e w4 ⟨v1, rfl, hO1, b4⟩
      rw [← hzs.out] at hO1
      obtain ⟨a1, c1, rfl, R1⟩ := hO1.read hwz
      have A1 := hO1.at_
      have K4 := below_next K3b b4
      replace R0 := R0.below b4
      replace r3 := r3.below b4
      replace B3 := B3.under b4
      replace r3b := r3b.below b4
      replace B3b := B3b.under b4
      go_wp2_with fail
      refine (eqStringS_any zs _ _ _ _ _ _ R1 R0).mono ?_
      rintro e w5 ⟨rfl, b5⟩
      have K5 := below_next K4 b5
      replace R0 := R0.below b5
      replace hO1 := OwnS.below hO1 b5
      replace r3 := r3.below b5
      replace B3 := B3.under b5
      replace r3b := r3b.below b5
      replace B3b := B3b.under b5
      clear R1
      go_wp2_with fail
      refine (toStringS_any xs _ _ _ _ (h.below K5) hl).mono ?_
      rintro e w6 ⟨g6, cs6, rfl, -, r6, -, b6⟩
      have K6 := below_next K5 b6
      replace R0 := R0.below b6
      replace hO1 := OwnS.below hO1 b6
      replace r3 := r3.below b6
      replace B3 := B3.under b6
      replace r3b := r3b.below b6
      replace B3b := B3b.under b6
      go_wp2_with fail
      refine (eqStringS_any xs _ _ _ _ _ _ r3 r6).mono ?_
      rintro e w7 ⟨rfl, b7⟩
      have K7 := below_next K6 b7
      replace R0 := R0.below b7
      replace hO1 := OwnS.below hO1 b7
      have r3' := r3.below b7
      replace B3 := B3.under b7
      replace r3b := r3b.below b7
      replace B3b := B3b.under b7
      clear r6 r3
      go_wp2_with fail
      refine (toStringS_any ys _ _ _ _ (h'.below K7) hl').mono ?_
      rintro e w6b ⟨g6b, cs6b, rfl, -, r6b, -, b6b⟩
      have K6b := below_next K7 b6b
      replace R0 := R0.below b6b
      replace hO1 := OwnS.below hO1 b6b
      replace r3' := r3'.below b6b
      replace B3 := B3.under b6b
      replace r3b := r3b.below b6b
      replace B3b := B3b.under b6b
      go_wp2_with fail
      refine (eqStringS_any ys _ _ _ _ _ _ r3b r6b).mono ?_
      rintro e w7b ⟨rfl, b7b⟩
      have K7b := below_next K6b b7b
      replace R0 := R0.below b7b
      replace hO1 := OwnS.below hO1 b7b
      replace r3' := r3'.below b7b
      replace B3 := B3.under b7b
      replace r3b := r3b.below b7b
      replace B3b := B3b.under b7b
      have hcs3 := size_of_rss B3 r3'
      have hcs3b := size_of_rss B3b r3b
      clear r6b r3' r3b r1 B1 r1b
      have s1 := b1.size
      have s1b := b1b.size
      have s2 := b2.size
      have s3 := b3.size
      have s3b := b3b.size
      have s4 := b4.size
      have s5 := b5.size
      have s6 := b6.size
      have s7 := b7.size
      have s6b := b6b.size
      have s7b := b7b.size
      go_wp2_with fail
      refine (markStringS_any 1 xs.length xs.length g3 cs3 w7b (by omega) (by omega) B3 hcs3).mono ?_
      rintro e w8 ⟨rfl, q8, -⟩
      have K8 := K7b.trans (q8.below (B := w.heap.size) K7b.size (by intro b hb; simp at hb; omega))
      have s8 := q8.size
      replace R0 := R0.wrote q8 (by intro p hp hin; have := A0 p hp; simp at hin; omega)
      replace hO1 := hO1.wrote q8 (by intro g hg hin; have := hO1.lt g hg; simp at hin; omega)
      replace B3b : Blk w8 g3b _ _ := (q8.block g3b B3b.lt (by simp; omega)).trans B3b
      go_wp2_with fail
      refine (markStringS_any (1 + xs.length) ys.length ys.length g3b cs3b w8 ?_ (by omega) B3b hcs3b).mono ?_
      · omega
      rintro e w8b ⟨rfl, q8b, -⟩
      have K8b := K8.trans (q8b.below (B := w.heap.size) K8.size (by intro b hb; simp at hb; omega))
      have s8b := q8b.size
      replace R0 := R0.wrote q8b (by intro p hp hin; have := A0 p hp; simp at hin; omega)
      replace hO1 := hO1.wrote q8b (by intro g hg hin; have := hO1.lt g hg; simp at hin; omega)
      obtain ⟨a1', c1', e1, R1⟩ := hO1.read hwz
      injection e1 with e1 _ e3
      subst e1 e3
      go_wp2_with fail
      refine (eqStringS_any zs _ _ _ _ _ _ R1 R0).mono ?_
      rintro e w9 ⟨rfl, b9⟩
      have K9 := below_next K8b b9
      have s9 := b9.size
      replace R0 := R0.below b9
      replace hO1 := OwnS.below hO1 b9
      clear R1
      go_wp2_with fail
      refine (markRes hO1 (by omega)).mono ?_
      rintro e w10 ⟨rfl, ⟨fp, hfp, -, q10⟩, M⟩
      have K10 := K9.trans (q10.below (B := w.heap.size) K9.size (by intro b hb; have := hfp b hb; omega))
      have s10 := q10.size
      replace R0 := R0.wrote q10 (by intro p hp hin; have := A0 p hp; have := hfp _ hin; omega)
      clear hO1
      go_wp2_with fail
      refine (heldStringS_any 1 zs.length _ _ _ (by omega) (by omega) M).mono ?_
      rintro e w11 ⟨rfl, b11⟩
      have K11 := below_next K10 b11
      replace R0 := R0.below b11
      replace M := M.below b11
      go_wp2_with fail
      refine (toStringS_any xs _ _ _ _ (h.below K11) hl).mono ?_
      rintro e w12 ⟨g12, cs12, rfl, -, r12, -, b12⟩
      have K12 := below_next K11 b12
      replace R0 := R0.below b12
      replace M := M.below b12
      go_wp2_with fail
      refine (toStringS_any ys _ _ _ _ (h'.below K12) hl').mono ?_
      rintro e w12b ⟨g12b, cs12b, rfl, -, r12b, -, b12b⟩
      have K12b := below_next K12 b12b
      replace R0 := R0.below b12b
      replace M := M.below b12b
      replace r12 := r12.below b12b
      go_wp2_with fail
      refine (implUniteNames_any xs ys _ _ _ _ _ _ _ r12 r12b (by omega)).mono ?_
      rintro e w13 ⟨v2, rfl, hO2, b13⟩
      rw [← hzs.out] at hO2
      obtain ⟨a2, c2, rfl, R2⟩ := hO2.read hwz
      have K13 := below_next K12b b13
      replace R0 := R0.below b13
      replace M := M.below b13
      go_wp2_with fail
      refine (eqStringS_any zs _ _ _ _ _ _ R2 R0).mono ?_
      rintro e w14 ⟨rfl, b14⟩
      have K14 := below_next K13 b14
      replace M := M.below b14
      go_wp2_with fail
      refine (heldStringS_any 1 zs.length _ _ _ (by omega) (by omega) M).mono ?_
      rintro e w15 ⟨rfl, b15⟩
      go_wp2_with fail
      go_ret
      exact ⟨rfl, below_next K14 b15⟩
    · have hp' : lessN (sizeSs ys) (1048576 - sizeSs xs) = -1 := lessN_neg (by omega)
      have C' := hide (szStringS_any ys a' n' cap' (1048576 - sizeSs xs) w h' (by omega) (by omega))
      rw [hp'] at C'
      go_enter Try.func4, Try.ntmps4
      go_wp2_with fail
      refine C.out.mono ?_
      rintro e w1 ⟨rfl, rfl⟩
      go_wp2_with fail
      refine C'.out.mono ?_
      rintro e w1 ⟨rfl, rfl⟩
      go_wp2_with fail
      all_goals go_ret
      all_goals exact ⟨rfl, Below.refl _ _⟩
  · have hp : lessN (sizeSs xs) 1048576 = -1 := lessN_neg (by omega)
    have C := hide (szStringS_any xs a n cap 1048576 w h (by omega) (by omega))
    rw [hp] at C
    go_enter Try.func4, Try.ntmps4
    go_wp2_with (go_at_call 8; (with_reducible refine C.out.mono ?_); rintro e w1 ⟨rfl, rfl⟩)
    all_goals go_ret
    all_goals exact ⟨rfl, Below.refl _ _⟩
end Go.Proofs.Ytknlbhclfeldbaa.fnExactUniteNames
