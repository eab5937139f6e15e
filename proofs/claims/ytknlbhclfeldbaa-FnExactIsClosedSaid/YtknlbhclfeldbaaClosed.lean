/-
  The walks of IsClosed in both texts.
-/
import Derived.Test.YtknlbhclfeldbaaFreeI
namespace Go.Proofs.Ytknlbhclfeldbaa
open Go.RowKit
set_option linter.unusedVariables false
set_option linter.unusedSimpArgs false

/-- No name is free. -/
def Tm.closed (t : Tm) : Bool := (t.free.length : Int) == 0
theorem Tm.free_small (t : Tm) (hw : t.wt ≤ 1048576) : (∀ s ∈ t.free, s.size ≤ 9223372036854775807) ∧ t.free.length ≤ 1048577 := by
  refine ⟨fun s hs => Nat.le_trans (Tm.free_size 1048576 t hw s hs) (by decide), ?_⟩
  have h1 := t.free_len
  have h2 := t.size_eq
  have h3 := t.args_le_wt
  omega
set_option maxHeartbeats 800000 in
theorem specIsClosed_any (t : Tm) (l : Lt) (w : World) (h : Md w t l) (hw : t.wt ≤ 1048576) :
    Calls Try.prog 23 #[.agg #[.int .i64 t.kind, .string t.name, .string t.other, .int .i64 t.n, .int .i64 t.type.kind, .slice l.ta l.tn l.tc, .int .i64 t.res.kind, .slice l.ra l.rn l.rc, .slice l.aa l.an l.ac]] w fun e w' => e = .returned (.bool t.closed) ∧ Below w.heap.size w w' := by
  have hC := specFreeVars_any t l _ (h.below (below_new w (.cells #[.int .i64 t.kind, .string t.name, .string t.other, .int .i64 t.n, .int .i64 t.type.kind, .slice l.ta l.tn l.tc, .int .i64 t.res.kind, .slice l.ra l.rn l.rc, .slice l.aa l.an l.ac] 42))) hw
  have C := hide (hC)
  clear hC
  obtain ⟨hsz, hln⟩ := t.free_small hw
  have hcl := hide (show t.closed = ((t.free.length : Int) == 0) from rfl)
  clear h
  go_enter Try.func23, Try.ntmps23
  go_wp2_with fail
  refine C.out.mono ?_
  rintro e w1 ⟨v, rfl, hO, b1⟩
  obtain ⟨a, c, rfl, -⟩ := hO.read hsz
  go_wp2_with fail
  go_ret
  exact ⟨ret_bool hcl.out.symm, below_of_alloc b1⟩
set_option maxHeartbeats 800000 in
theorem implIsClosed_any (t : Tm) (l : Lt) (w : World) (h : Md w t l) (hw : t.wt ≤ 1048576) :
    Calls Try.prog 24 #[.agg #[.int .i64 t.kind, .string t.name, .string t.other, .int .i64 t.n, .int .i64 t.type.kind, .slice l.ta l.tn l.tc, .int .i64 t.res.kind, .slice l.ra l.rn l.rc, .slice l.aa l.an l.ac]] w fun e w' => e = .returned (.bool t.closed) ∧ Below w.heap.size w w' := by
  have hC := implFreeVars_any t l _ (h.below (below_new w (.cells #[.int .i64 t.kind, .string t.name, .string t.other, .int .i64 t.n, .int .i64 t.type.kind, .slice l.ta l.tn l.tc, .int .i64 t.res.kind, .slice l.ra l.rn l.rc, .slice l.aa l.an l.ac] 42))) hw
  have C := hide (hC.mono fun _ _ h => h.gives)
  clear hC
  obtain ⟨hsz, hln⟩ := t.free_small hw
  have hcl := hide (show t.closed = ((t.free.length : Int) == 0) from rfl)
  clear h
  go_enter Try.func24, Try.ntmps24
  go_wp2_with fail
  refine C.out.mono ?_
  rintro e w1 ⟨v, rfl, hO, b1⟩
  obtain ⟨a, c, rfl, -⟩ := hO.read hsz
  go_wp2_with fail
  go_ret
  exact ⟨ret_bool hcl.out.symm, below_of_alloc b1⟩
end Go.Proofs.Ytknlbhclfeldbaa
