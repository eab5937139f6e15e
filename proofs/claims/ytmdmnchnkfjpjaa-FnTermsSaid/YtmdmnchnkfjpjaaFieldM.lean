/-
  Contract of l5Fields, joined from its three cases.
-/
import Derived.Test.YtmdmnchnkfjpjaaField6
import Derived.Test.YtmdmnchnkfjpjaaField9
import Derived.Test.YtmdmnchnkfjpjaaFieldk
namespace Go.Proofs.Ytmdmnchnkfjpjaa
open Go.RowKit

theorem l5Fields_any (t : Tm) (l : Lt) (w : World) (h : Md w t l) (hw : t.wt ≤ 1048576) :
    Calls Try.prog 28 #[.agg #[.int .i64 t.kind, .string t.name, .string t.other, .int .i64 t.n, .int .i64 t.type.kind, .slice l.ta l.tn l.tc, .int .i64 t.res.kind, .slice l.ra l.rn l.rc, .slice l.aa l.an l.ac]] w fun e w' => e = .returned (.bool (fieldsS t)) ∧ Below w.heap.size w w' := by
  by_cases h6 : t.kind = 6
  · exact l5Fields_6 t l w h hw h6
  · by_cases h9 : t.kind = 9
    · exact l5Fields_9 t l w h hw h9
    · exact l5Fields_k t l w h hw ⟨h6, h9⟩
end Go.Proofs.Ytmdmnchnkfjpjaa
