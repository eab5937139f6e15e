/-
  The walk of the function literal of the program's IsValidType: whether a node has the form of its kind.
-/
import Derived.Test.YtmdmnchnkfjpjaaValTy0
import Derived.LoopTactic
import Derived.Outline
import Derived.Deep.RegionHeld3
import Derived.Deep.RegionWith
namespace Go.Proofs.Ytmdmnchnkfjpjaa
open Go.RowKit
set_option maxRecDepth 100000
set_option linter.unusedVariables false
set_option linter.unusedSimpArgs false

set_option maxHeartbeats 1600000 in
theorem validLit_3 (xs : List Ty) (a : Option Addr) (n cap : Nat) (w : World) (HX : Hid (n = xs.length)) :
    Calls Try.prog 69 #[.agg #[.int .i64 3, .slice a n cap]] w fun e w' => e = .returned (.bool (Ty.formed ⟨3, xs⟩)) ∧ Below w.heap.size w w' := by
  go_enter Try.func69, Try.ntmps69
  go_wp2_with fail
  have hw : IntKind.i64.wrap 2 = 2 := rfl
  go_region_with (go_at_call 57; (with_reducible refine (within_is (b := true) (by decide) _).mono ?_); rintro e w' ⟨rfl, rfl⟩)
  all_goals go_wp2_with fail
  all_goals go_ret
  all_goals exact ⟨ret_bool (formed_of3 HX.out), (by repeat (first | exact Below.refl _ _ | assumption | refine Below.drew ?_ | refine below_drewN ?_ _ | refine Below.alloc ?_ (by first | omega | (simp; done) | (simp; omega)) _ | refine Below.setCell ?_ (by first | omega | (simp; done) | (simp; omega)) _))⟩
set_option maxHeartbeats 1600000 in
theorem validLit_4 (xs : List Ty) (a : Option Addr) (n cap : Nat) (w : World) (HX : Hid (n = xs.length)) :
    Calls Try.prog 69 #[.agg #[.int .i64 4, .slice a n cap]] w fun e w' => e = .returned (.bool (Ty.formed ⟨4, xs⟩)) ∧ Below w.heap.size w w' := by
  go_enter Try.func69, Try.ntmps69
  go_wp2_with fail
  have hw : IntKind.i64.wrap 3 = 3 := rfl
  go_region_with (go_at_call 57; (with_reducible refine (within_is (b := true) (by decide) _).mono ?_); rintro e w' ⟨rfl, rfl⟩)
  all_goals go_wp2_with fail
  all_goals go_ret
  all_goals exact ⟨ret_bool (formed_of4 HX.out), (by repeat (first | exact Below.refl _ _ | assumption | refine Below.drew ?_ | refine below_drewN ?_ _ | refine Below.alloc ?_ (by first | omega | (simp; done) | (simp; omega)) _ | refine Below.setCell ?_ (by first | omega | (simp; done) | (simp; omega)) _))⟩
end Go.Proofs.Ytmdmnchnkfjpjaa
