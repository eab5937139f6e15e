/-
  Contract of the program's isForm, joined from its cases.
-/
import Derived.Test.YtmdmnchnkfjpjaaFormA
import Derived.Test.YtmdmnchnkfjpjaaFormB
import Derived.Test.YtmdmnchnkfjpjaaFormC
import Derived.Test.YtmdmnchnkfjpjaaFormD
namespace Go.Proofs.Ytmdmnchnkfjpjaa
open Go.RowKit

theorem isForm_any (t : Tm) (l : Lt) (w : World) (h : Md w t l) (hw : t.wt ≤ 1048576) :
    Calls Try.prog 27 #[.agg #[.int .i64 t.kind, .string t.name, .string t.other, .int .i64 t.n, .int .i64 t.type.kind, .slice l.ta l.tn l.tc, .int .i64 t.res.kind, .slice l.ra l.rn l.rc, .slice l.aa l.an l.ac]] w fun e w' => e = .returned (.bool (formI t)) ∧ Below w.heap.size w w' := by
  by_cases h1 : t.kind = 1
  · exact isForm_1 t l w h hw h1
  by_cases h2 : t.kind = 2
  · exact isForm_2 t l w h hw h2
  by_cases h3 : t.kind = 3
  · exact isForm_3 t l w h hw h3
  by_cases h4 : t.kind = 4
  · exact isForm_4 t l w h hw h4
  by_cases h6 : t.kind = 6
  · exact isForm_6 t l w h hw h6
  by_cases h8 : t.kind = 8
  · exact isForm_8 t l w h hw h8
  by_cases h9 : t.kind = 9
  · exact isForm_9 t l w h hw h9
  exact isForm_k t l w h hw ⟨h1, h2, h3, h4, h6, h8, h9⟩
end Go.Proofs.Ytmdmnchnkfjpjaa
