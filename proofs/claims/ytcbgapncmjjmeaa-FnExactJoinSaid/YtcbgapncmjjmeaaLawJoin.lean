/-
  The law FnExactJoin: the program's Join and the reference's return the same for every argument. No condition.
-/
import Derived.Test.YtcbgapncmjjmeaaJoin
namespace Go.Proofs.Ytcbgapncmjjmeaa.fnExactJoin
open Go.RowKit Go.ChangeShapes Go.WideShapes
set_option maxRecDepth 100000
set_option linter.unusedVariables false
set_option linter.unusedSimpArgs false

set_option maxHeartbeats 400000 in
theorem walk (xs : List ByteArray) (a : Option Addr) (n cap : Nat) (s : ByteArray) (w : World) (h : Rss w xs a n cap) (hs : s.size ≤ maxLen) :
    Calls Try.prog 3 #[.slice a n cap, .string s] w fun e w' => e = .returned (.bool true) ∧ Below w.heap.size w w' := by
  have hs63 : s.size ≤ 9223372036854775807 := by unfold maxLen at hs; omega
  by_cases hb : s.size ≤ 1048576
  · have hd : decide ((s.size : Int) > 1048576) = false := by simp; omega
    by_cases hz : sizeSs xs ≤ 1048576
    · have hp : lessN (sizeSs xs) 1048576 = 1048576 - sizeSs xs := lessN_pos (by omega)
      have C := szStringS_any xs a n cap 1048576 w h (by omega) (by omega)
      rw [hp] at C
      have hl : xs.length ≤ 1048576 := by unfold sizeSs at hz; omega
      obtain ⟨left, hleft⟩ : ∃ left : Int, left = 1048576 - sizeSs xs := ⟨_, rfl⟩
      rw [← hleft] at C
      have hl0 : decide (left < 0) = false := by simp; omega
      replace C := hide C
      obtain ⟨out, hout⟩ : ∃ out : ByteArray, out = ⟨(bjoin xs s).toArray⟩ := ⟨_, rfl⟩
      have C1 := fun g c W hW => specJoin_any xs s g xs.length c W hW hb hz
      have C2 := fun g c W hW => implJoin_any xs s g xs.length c W hW hb hz
      rw [← hout] at C1 C2
      replace C1 := hide C1
      replace C2 := hide C2
      clear hout hleft hp
      go_enter Try.func3, Try.ntmps3
      go_wp2_with (go_at_call 4; (with_reducible refine C.out.mono ?_); rintro e w1 ⟨rfl, rfl⟩)
      refine (toStringS_any xs _ _ _ _ h hl).mono ?_
      rintro e w1 ⟨g1, cs1, rfl, -, r1, -, b1⟩
      have h1 := h.below b1
      go_wp2_with fail
      refine (C1.out _ _ _ r1).mono ?_
      rintro e w2 ⟨rfl, b2⟩
      have h2 := h1.below b2
      go_wp2_with fail
      refine (toStringS_any xs _ _ _ _ h2 hl).mono ?_
      rintro e w3 ⟨g3, cs3, rfl, -, r3, -, b3⟩
      have h3 := h2.below b3
      go_wp2_with fail
      refine (C2.out _ _ _ r3).mono ?_
      rintro e w4 ⟨rfl, b4⟩
      have h4 := h3.below b4
      go_wp2_with fail
      refine (toStringS_any xs _ _ _ _ h4 hl).mono ?_
      rintro e w5 ⟨g5, cs5, rfl, -, r5, -, b5⟩
      go_wp2_with fail
      refine (eqStringS_any xs _ _ _ _ _ _ ((r3.below b4).below b5) r5).mono ?_
      rintro e w6 ⟨rfl, b6⟩
      go_wp2_with fail
      go_ret
      exact ⟨rfl, below_next (below_next (below_next (below_next (below_next b1 b2) b3) b4) b5) b6⟩
    · have hp : lessN (sizeSs xs) 1048576 = -1 := lessN_neg (by omega)
      have C := hide (szStringS_any xs a n cap 1048576 w h (by omega) (by omega))
      rw [hp] at C
      go_enter Try.func3, Try.ntmps3
      go_wp2_with (go_at_call 4; (with_reducible refine C.out.mono ?_); rintro e w1 ⟨rfl, rfl⟩)
      all_goals go_ret
      all_goals exact ⟨rfl, Below.refl _ _⟩
  · have hd : decide ((s.size : Int) > 1048576) = true := by simp; omega
    go_enter Try.func3, Try.ntmps3
    go_wp2_with fail
    go_ret
    exact ⟨rfl, Below.refl _ _⟩
end Go.Proofs.Ytcbgapncmjjmeaa.fnExactJoin
