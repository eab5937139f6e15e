/-
  The law FnExactParseNumber: the program's ParseNumber and the reference's read the same of every string.
-/
import Derived.Test.YtcbgapncmjjmeaaDoorNumA
namespace Go.Proofs.YtcbgapncmjjmeaaDoor.fnExactParseNumber
open Go.RowKit
set_option maxRecDepth 100000
set_option linter.unusedVariables false
set_option linter.unusedSimpArgs false

theorem walk (s : ByteArray) (w : World) (hs : s.size ≤ maxLen) (ht : Tab w) (h1 : Syn w) (h2 : Rng w) : Calls Tryd.prog 5 #[.string s] w fun e w' => e = .returned (.bool true) ∧ Below w.heap.size w w' := by
  have hm : s.size ≤ 9223372036854775807 := by unfold maxLen at hs; omega
  by_cases hbig : s.size ≤ 1048576
  · have hd : decide ((s.size : Int) > 1048576) = false := by simp; omega
    have C1 := hide (specParseNumber_any s w hbig)
    have C2 := hide (fun W (hW : Below w.heap.size w W) => implParseNumber_any s W hbig (h1.below hW) (h2.below hW) (ht.below hW))
    clear ht h1 h2
    go_enter Tryd.func5, Tryd.ntmps5
    go_wp2_with fail
    refine C1.out.mono ?_
    rintro e w1 ⟨n, b, rfl, hr, b1⟩
    go_wp2_with fail
    refine (C2.out _ b1).mono ?_
    rintro e w2 ⟨m, c, rfl, hr2, b2⟩
    obtain ⟨rfl, rfl⟩ := hr.unique hr2
    have t1 : (n != n) = false := by simp
    have t2 : (b != b) = false := by simp
    go_wp2_with fail
    go_ret
    exact ⟨rfl, below_next b1 b2⟩
  · have hd : decide ((s.size : Int) > 1048576) = true := by simp; omega
    go_enter Tryd.func5, Tryd.ntmps5
    go_wp2_with fail
    go_ret
    exact ⟨rfl, Below.refl _ _⟩
end Go.Proofs.YtcbgapncmjjmeaaDoor.fnExactParseNumber
