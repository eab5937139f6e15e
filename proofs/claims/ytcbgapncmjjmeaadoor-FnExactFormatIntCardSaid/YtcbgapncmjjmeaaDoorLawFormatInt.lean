/-
  The law FnExactFormatInt: the program's FormatInt and the reference's return the same string for every int.
-/
import Derived.Test.YtcbgapncmjjmeaaDoorItoa
namespace Go.Proofs.YtcbgapncmjjmeaaDoor.fnExactFormatInt
open Go.RowKit
set_option maxRecDepth 100000
set_option linter.unusedVariables false
set_option linter.unusedSimpArgs false

theorem walk (n : Int) (w : World) (hn : (Lit.int .i64 n).wf = true) (ht : Tab w) : Calls Tryd.prog 3 #[.int .i64 n] w fun e w' => e = .returned (.bool true) ∧ Below w.heap.size w w' := by
  have hi : i64 n := by simpa [i64, Lit.wf, IntKind.min, IntKind.max, IntKind.signed, IntKind.bits] using hn
  have C1 := specFormatInt_any n w hi
  have C2 := fun W hW => implFormatInt_any n W hi hW
  generalize itoaS n = s at C1 C2
  replace C1 := hide C1
  replace C2 := hide C2
  have HT := hide ht
  clear hn ht
  go_enter Tryd.func3, Tryd.ntmps3
  go_wp2_with (first
    | (go_at_call 11; (with_reducible refine C1.out.mono ?_); rintro e w1 ⟨rfl, b1⟩)
    | (go_at_call 12; (with_reducible refine (C2.out _ (HT.out.below b1)).mono ?_); rintro e w2 ⟨rfl, b2⟩))
  go_ret
  exact ⟨rfl, below_next b1 b2⟩
end Go.Proofs.YtcbgapncmjjmeaaDoor.fnExactFormatInt
