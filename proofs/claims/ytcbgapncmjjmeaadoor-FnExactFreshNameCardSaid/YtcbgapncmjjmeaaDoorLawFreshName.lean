/-
  The law FnExactFreshName: the program's FreshName and the reference's find the same name for every list, and leave it as it was.
-/
import Derived.Test.YtcbgapncmjjmeaaDoorFresh
namespace Go.Proofs.YtcbgapncmjjmeaaDoor.fnExactFreshName
open Go.RowKit
set_option maxRecDepth 100000
set_option linter.unusedVariables false
set_option linter.unusedSimpArgs false

set_option maxHeartbeats 1600000 in
theorem walk (xs : List ByteArray) (a : Option Addr) (n cap : Nat) (w : World) (h : Rss w xs a n cap) (ht : Tab w) :
    Calls Tryd.prog 6 #[.slice a n cap] w fun e w' => e = .returned (.bool true) ∧ Below w.heap.size w w' := by
  by_cases hz : sizeSs xs ≤ 1048576
  · have hp : lessN (sizeSs xs) 1048576 = 1048576 - sizeSs xs := lessN_pos (by omega)
    have C := hide (szStringS_any xs a n cap 1048576 w h (by omega) (by omega))
    rw [hp] at C
    have hl : xs.length ≤ 1048576 := by unfold sizeSs at hz; omega
    have HT := hide ht
    clear ht
    go_enter Tryd.func6, Tryd.ntmps6
    go_wp2_with (go_at_call 17; (with_reducible refine C.out.mono ?_); rintro e w1 ⟨rfl, rfl⟩)
    clear C
    refine (toStringS_any xs _ _ _ _ h hl).mono ?_
    rintro e w1 ⟨g1, cs1, rfl, B1, r1, gb1, b1⟩
    go_wp2_with fail
    refine (specFresh_any xs _ _ _ _ r1 hl).mono ?_
    rintro e w2 ⟨k, hk, hk2, hk3, rfl, b2⟩
    have K2 := below_next b1 b2
    go_wp2_with fail
    refine (toStringS_any xs _ _ _ _ (h.below K2) hl).mono ?_
    rintro e w3 ⟨g3, cs3, rfl, B3, r3, gb3, b3⟩
    have K3 := below_next K2 b3
    go_wp2_with fail
    refine (implFreshName_any xs _ _ _ _ r3 hl (HT.out.below K3)).mono ?_
    rintro e w4 ⟨j, hj, hj2, hj3, rfl, b4⟩
    obtain rfl := fresh_one hk hj hk2 hj2 hk3 hj3
    have K4 := below_next K3 b4
    have r4 := r3.below b4
    have hsame : ((nmV k).toList == (nmV k).toList) = true := by simp
    generalize nmV k = q at hsame ⊢
    go_wp2_with fail
    refine (toStringS_any xs _ _ _ _ (h.below K4) hl).mono ?_
    rintro e w5 ⟨g5, cs5, rfl, B5, r5, gb5, b5⟩
    have K5 := below_next K4 b5
    go_wp2_with fail
    refine (eqStringS_any xs _ _ _ _ _ _ (r4.below b5) r5).mono ?_
    rintro e w6 ⟨rfl, b6⟩
    go_wp2_with fail
    go_ret
    exact ⟨rfl, below_next K5 b6⟩
  · have hp : lessN (sizeSs xs) 1048576 = -1 := lessN_neg (by omega)
    have C := hide (szStringS_any xs a n cap 1048576 w h (by omega) (by omega))
    rw [hp] at C
    go_enter Tryd.func6, Tryd.ntmps6
    go_wp2_with (go_at_call 17; (with_reducible refine C.out.mono ?_); rintro e w1 ⟨rfl, rfl⟩)
    all_goals go_ret
    all_goals exact ⟨rfl, Below.refl _ _⟩
end Go.Proofs.YtcbgapncmjjmeaaDoor.fnExactFreshName
