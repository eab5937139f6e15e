/-
  The law FnExactIndexOf: the program's IndexOf and the reference's return the same for every argument. No condition.
-/
import Derived.Test.YtmlpjadifjdmmabStr
namespace Go.Proofs.Ytmlpjadifjdmmab.fnExactIndexOf
open Go.RowKit Go.ChangeShapes Go.WideShapes
set_option linter.unusedVariables false
set_option linter.unusedSimpArgs false

set_option maxHeartbeats 400000 in
theorem walk (xs : List ByteArray) (a : Option Addr) (n cap : Nat) (s : ByteArray) (w : World) (h : Rss w xs a n cap) (hs : s.size ≤ maxLen) :
    Calls Try.prog 4 #[.slice a n cap, .string s] w fun e w' => e = .returned (.bool true) ∧ Below w.heap.size w w' := by
  by_cases hz : sizeSs xs ≤ 1048576
  · have hp : lessN (sizeSs xs) 1048576 = 1048576 - sizeSs xs := lessN_pos (by omega)
    have C := hide (szStringS_any xs a n cap 1048576 w h (by omega) (by omega))
    rw [hp] at C
    have hl : xs.length ≤ 1048576 := by unfold sizeSs at hz; omega
    go_enter Try.func4, Try.ntmps4
    go_wp2_with (go_at_call 11; (with_reducible refine C.out.mono ?_); rintro e w1 ⟨rfl, rfl⟩)
    · go_ret
      exact ⟨rfl, Below.refl _ _⟩
    refine (toStringS_any xs _ _ _ _ h hl).mono ?_
    rintro e w1 ⟨g1, cs1, rfl, -, r1, -, b1⟩
    have h1 := h.below b1
    go_wp2_with fail
    refine (specIndexOf_any xs s _ _ _ _ r1).mono ?_
    rintro e w1' ⟨rfl, rfl⟩
    go_wp2_with fail
    refine (toStringS_any xs _ _ _ _ h1 hl).mono ?_
    rintro e w2 ⟨g2, cs2, rfl, -, r2, -, b2⟩
    have h2 := h1.below b2
    go_wp2_with fail
    refine (implIndexOf_any xs s _ _ _ _ r2).mono ?_
    rintro e w2' ⟨rfl, rfl⟩
    go_wp2_with fail
    refine (toStringS_any xs _ _ _ _ h2 hl).mono ?_
    rintro e w3 ⟨g3, cs3, rfl, -, r3, -, b3⟩
    go_wp2_with fail
    refine (eqStringS_any xs _ _ _ _ _ _ (r2.below b3) r3).mono ?_
    rintro e w4 ⟨rfl, b4⟩
    go_wp2_with fail
    go_ret
    exact ⟨rfl, below_next (below_next (below_next b1 b2) b3) b4⟩
  · have hp : lessN (sizeSs xs) 1048576 = -1 := lessN_neg (by omega)
    have C := hide (szStringS_any xs a n cap 1048576 w h (by omega) (by omega))
    rw [hp] at C
    go_enter Try.func4, Try.ntmps4
    go_wp2_with (go_at_call 11; (with_reducible refine C.out.mono ?_); rintro e w1 ⟨rfl, rfl⟩)
    all_goals go_ret
    all_goals exact ⟨rfl, Below.refl _ _⟩
end Go.Proofs.Ytmlpjadifjdmmab.fnExactIndexOf
